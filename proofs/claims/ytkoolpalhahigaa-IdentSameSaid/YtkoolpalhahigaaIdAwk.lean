/-
  petrellaw06.awake, much.
-/
import Derived.Test.YtkoolpalhahigaaGIf
import Derived.Test.YtkoolpalhahigaaGHx
import Derived.Test.YtkoolpalhahigaaGRf
set_option linter.unusedVariables false
set_option linter.unusedSimpArgs false
namespace Go.Proofs.Ytkoolpalhahigaa
open Go.RowKit
namespace Ids
open Oct
section
variable {ops : Array Oper} {rest : List Oper} {o : Oper} {a : Act} {w : World} {K : Act → World → Prop} {Q : Exit → Act → World → Prop}
/-- '[]api.Id{x, y, z}'. -/
theorem run_build3 (w : World) (x y z : List UInt8) (hx : x.length = 32) (hy : y.length = 32) (hz : z.length = 32) : (Instr.buildSlice 22 3 #[(0, idv x), (1, idv y), (2, idv z)]).run Try.prog w = .ok (.slice (some ⟨w.heap.size, 0, none⟩) 3 3) (w.alloc (.cells ([x, y, z].flatten.map bv).toArray 26)) := by
  obtain ⟨i, hi, hz', hs, _⟩ := slId.info
  have hf := Great.fill_whole (s := 32) (by omega) [idv x, idv y, idv z] ((Array.range (3 * i.size)).map ((Value.agg z32).cells[· % (Value.agg z32).cells.size]!)) (by intro v hv; simp only [List.mem_cons, List.not_mem_nil, or_false] at hv; rcases hv with rfl | rfl | rfl <;> (show (List.map bv _).toArray.size = 32; simp [hx, hy, hz])) (by simp [hs])
  have e : ([idv x, idv y, idv z].flatMap fun v => v.cells.toList).toArray = ([x, y, z].flatten.map bv).toArray := by simp [idv, Value.cells]
  rw [e] at hf
  refine run_buildSlice (P := Try.prog) w _ 26 3 _ _ i (.agg z32) Try.underlying22 hi hz' (by rw [hs]; decide) (by rw [hs]; decide) ?_
  rw [hs] at hf ⊢
  exact hf
theorem wl_build3 (hgd : o.guard = none) {p q r : Operand} (ho : o.op = .buildSlice 22 3 #[(0, p), (1, q), (2, r)]) {x y z : List UInt8} (hx : x.length = 32) (hy : y.length = 32) (hz : z.length = 32) (hp : a.eval p = idv x) (hq : a.eval q = idv y) (hr : a.eval r = idv z)
    (h : ∀ w', Own w' (.slice (some ⟨w.heap.size, 0, none⟩) 3 3) [x, y, z] → Keep (fun _ => False) w w' → wpList Try.prog ops Q rest (a.put o.dst (.slice (some ⟨w.heap.size, 0, none⟩) 3 3)) w') : wpList Try.prog ops Q (o :: rest) a w :=
  wpList_plain hgd fun K hK => by
    unfold Oper.wp execOp
    simp only [ho, Sem.run_bind, List.map_toArray, List.map_cons, List.map_nil, hp, hq, hr, run_build3 w x y z hx hy hz, Result.andThen_ok]
    refine hK _ _ (h _ (Own.of rfl ?_ (heap_alloc_new w _) (Nat.le_refl _) (by unfold maxLen; omega) ?_ ?_) ((Keep.refl _ _).alloc _))
    · intro u hu
      simp only [List.mem_cons, List.not_mem_nil, or_false] at hu
      rcases hu with rfl | rfl | rfl <;> assumption
    · simp [hx, hy, hz]
    · rw [List.take_of_length_le]
      simp [hx, hy, hz]
/-- A struct made of its parts, guarded or not. -/
theorem wl_buildW {T : TypeId} {parts : Array (Nat × Operand)} (hw : Region.wanted o (yielded ops a.tmps) = true) (ho : o.op = .build T parts) {cs : Array Value} (hb : Try.prog.built T (parts.map fun (i, x) => (i, a.eval x)).toList = some cs) (h : wpList Try.prog ops Q rest (a.put o.dst (.agg cs)) w) : wpList Try.prog ops Q (o :: rest) a w :=
  wpList_step fun K hK => by
    rw [if_pos hw]
    exact Go.wp_build T parts ho (by rw [hb]; rfl) (by rw [hb]; exact hK _ _ h)
end
/-- The id of one byte. -/
def one (b : UInt8) : List UInt8 := b :: List.replicate 31 0
theorem one_len (b : UInt8) : (one b).length = 32 := by simp [one]
theorem one_cells (b : UInt8) : Try.prog.built 26 [(0, .int .u8 b.toNat)] = some ((one b).map bv).toArray := by kernel_rfl
theorem set_awk : IdL.setL [one 2, one 1, one 2] = [one 1, one 2] := by decide +kernel
theorem At.cell_of {w : World} {b off n : Nat} {els : List (List UInt8)} (h : At w (some ⟨b, off, none⟩) n els) {i : Nat} {x : List UInt8} (hi : els[i]? = some x) : w.rangeAt b (off + i * 32) (x.map bv) := by
  rcases h.lay with e | ⟨b', off', e, _, hr⟩
  · have := (List.getElem?_eq_some_iff.1 hi).1
    have := h.len
    omega
  · cases e
    exact hr i x hi
theorem Own.atS {w : World} {a : Option Addr} {n c : Nat} {els : List (List UInt8)} (h : Own w (.slice a n c) els) : At w a n els := by
  obtain ⟨a', c', e, h1, _⟩ := h.at
  cases e
  exact h1
set_option maxRecDepth 100000 in
set_option maxHeartbeats 2000000 in
theorem awake_true (w : World) : Calls Try.prog 12 #[] w fun e w' => e = .returned (.bool true) ∧ Keep (fun _ => False) w w' := by
  have hgd := guard_id
  have hcmp : ∀ w, Sem.run Try.prog (binOp .eql 26 (idv (one 1)) (idv (one 1))) w = .ok (.bool true) w := fun w => by rw [eql_id w (one 1) (one 1) (one_len _) (one_len _)]; simp
  obtain ⟨S, hS⟩ : ∃ S : ByteArray, S = ⟨(Hex.txt (one 171)).toArray⟩ := ⟨_, rfl⟩
  have hS1 : 2 ≤ S.size := by rw [hS]; decide +kernel
  have hS2 : S.extract 0 2 = ⟨#[97, 98]⟩ := by rw [hS]; decide +kernel
  have HT : Hid (∀ w, Calls Try.prog 19 #[idv (one 171)] w fun e w' => e = .returned (.string S) ∧ Keep (fun _ => False) w w') := fun w => by rw [hS]; exact text_any w _ (one_len _)
  clear hS
  go_enter Try.func12, Try.ntmps12
  go_wp2_with (first | (refine wl_buildW (parts := #[(0, Operand.const (.int .u8 2))]) (by rfl) rfl (cs := ((one 2).map bv).toArray) (by kernel_rfl) ?_; simp only [Act.put, List.setIfInBounds_toArray, List.set_cons_zero, List.set_cons_succ]) | (refine wl_buildW (parts := #[(0, Operand.const (.int .u8 1))]) (by rfl) rfl (cs := ((one 1).map bv).toArray) (by kernel_rfl) ?_; simp only [Act.put, List.setIfInBounds_toArray, List.set_cons_zero, List.set_cons_succ]) | (refine wl_buildW (parts := #[(0, Operand.const (.int .u8 171))]) (by rfl) rfl (cs := ((one 171).map bv).toArray) (by kernel_rfl) ?_; simp only [Act.put, List.setIfInBounds_toArray, List.set_cons_zero, List.set_cons_succ]) | (refine wl_build3 rfl rfl (one_len 2) (one_len 1) (one_len 2) rfl rfl rfl ?_; intro w1 h1 k1; have A1 : Hid (At w1 (some ⟨w.heap.size, 0, none⟩) 3 [one 2, one 1, one 2]) := h1.atS; have K1 : Hid (Keep (fun _ => False) w w1) := k1; clear h1 k1; simp only [Act.put, List.setIfInBounds_toArray, List.set_cons_zero, List.set_cons_succ]) | (go_at_call 13; refine (set_any w1 _ 3 3 _ A1.out (by omega)).mono ?_; rw [set_awk]; rintro e w2 ⟨v, rfl, h1⟩; obtain ⟨a3, n3, c3, e3, at3, hn3⟩ := h1.1.any; subst e3; obtain rfl : n3 = 2 := hn3.out; obtain ⟨b3, o3, rfl, hr3⟩ : ∃ b off, a3 = some ⟨b, off, none⟩ ∧ w2.rangeAt b (off + 0 * 32) ((one 1).map bv) := (by rcases at3.lay with e | ⟨b, off, e, _, hr⟩; omega; exact ⟨b, off, e, hr 0 _ rfl⟩); have R3 : Hid (w2.rangeAt b3 o3 ((one 1).map bv)) := (by have := hr3; rw [Nat.zero_mul, Nat.add_zero] at this; exact this); have K2 : Hid (Keep (fun _ => False) w w2) := K1.out.trans h1.2.1; clear h1 at3 hn3 hr3) | (refine St.wl_load tyIdP (by rfl) rfl rfl R3.out (by simp [one]) ?_; simp only [Act.put, List.setIfInBounds_toArray, List.set_cons_zero, List.set_cons_succ]) | (go_at_call 19; refine (HT.out _).mono ?_; rintro e w3 ⟨rfl, h3⟩; have K3 : Hid (Keep (fun _ => False) w w3) := K2.out.trans h3; clear h3))
  go_ret
  exact ⟨rfl, K3.out⟩
end Ids
end Go.Proofs.Ytkoolpalhahigaa
