/-
  petrelref02: rotr, word, start, consts. petrelref02.block: the walk. petrelref02.Sum: the walk. (Does not build yet: begun.)
-/
import Derived.Test.YthllhjdaknmlbaaDoorGSh
import Derived.ArgAppend
import Derived.Laws.IdiomStrings
import Derived.Test.YthllhjdaknmlbaaDoorGOp
set_option linter.unusedVariables false
set_option linter.unusedSimpArgs false

namespace Go.Proofs.YthllhjdaknmlbaaDoor
open Go.RowKit
namespace Sha
open Oct Mem
theorem tyU32s_info : True := trivial
theorem wl_buildS {ops : Array Oper} {rest : List Oper} {o : Oper} {a : Act} {w : World} {Q : Exit → Act → World → Prop} {T : TypeId} {n : Nat} {parts : Array (Nat × Operand)} (hgd : o.guard = none) (ho : o.op = .buildSlice T n parts) {v : Value} {w' : World} (hr : (Instr.buildSlice T n (parts.map fun (i, x) => (i, a.eval x))).run Tryd.prog w = .ok v w')
    (h : wpList Tryd.prog ops Q rest (a.put o.dst v) w') : wpList Tryd.prog ops Q (o :: rest) a w :=
  wpList_plain hgd fun K hK => by
    unfold Oper.wp execOp
    simp only [ho, Sem.run_bind, hr, Result.andThen_ok]
    exact hK _ _ h
end Sha
end Go.Proofs.YthllhjdaknmlbaaDoor


namespace Go.Proofs.YthllhjdaknmlbaaDoor
open Go.RowKit
namespace Sha
open Oct Mem
/-- The words, moved down as far as j. -/
def shf (r : R8) (j : Nat) : List UInt32 := (toL r).take (j + 1) ++ ((toL r).drop j).take (7 - j)
theorem shf_set (r : R8) (j : Nat) (h : 0 < j) (h7 : j ≤ 7) : (us (shf r j)).setIfInBounds j (uv ((toL r).getD (j - 1) 0)) = us (shf r (j - 1)) := by
  have : j = 1 ∨ j = 2 ∨ j = 3 ∨ j = 4 ∨ j = 5 ∨ j = 6 ∨ j = 7 := by omega
  rcases this with rfl | rfl | rfl | rfl | rfl | rfl | rfl <;> rfl
theorem shf_at (r : R8) (j : Nat) (h : 0 < j) (h7 : j ≤ 7) : (us (shf r j))[j - 1]? = some (uv ((toL r).getD (j - 1) 0)) := by
  have : j = 1 ∨ j = 2 ∨ j = 3 ∨ j = 4 ∨ j = 5 ∨ j = 6 ∨ j = 7 := by omega
  rcases this with rfl | rfl | rfl | rfl | rfl | rfl | rfl <;> rfl
theorem shf_old (r : R8) (j : Nat) (h : 0 < j) (h7 : j ≤ 7) : (us (shf r j))[j]? = some (uv ((toL r).getD j 0)) := by
  have : j = 1 ∨ j = 2 ∨ j = 3 ∨ j = 4 ∨ j = 5 ∨ j = 6 ∨ j = 7 := by omega
  rcases this with rfl | rfl | rfl | rfl | rfl | rfl | rfl <;> rfl
theorem addR_comm (x y : R8) : addR x y = addR y x := by
  simp [addR, UInt32.add_comm]
theorem K_at (k : Nat) (h : k < 64) : (us K)[k]? = some (uv (K.getD k 0)) := by
  rw [List.getElem?_toArray, List.getElem?_map, List.getD_eq_getElem?_getD, List.getElem?_eq_getElem (by exact h)]; rfl
end Sha
end Go.Proofs.YthllhjdaknmlbaaDoor


namespace Go.Proofs.YthllhjdaknmlbaaDoor
open Go.RowKit
namespace Sha
open Oct Mem
/-- A row of bytes whose block may be one that a string was turned into. -/
def Sl (w : World) (v : Value) (bs : List UInt8) : Prop :=
  ∃ g cap cur fz, v = .slice (some ⟨g, 0, none⟩) bs.length cap ∧ w.heap[g]? = some (.cells cur 5 fz) ∧ (fz = (0, 0) ∨ fz = (cur.size, cur.size + 1)) ∧ bs.length ≤ cap ∧ cap ≤ maxLen ∧ cur.size = cap ∧ cur.toList.take bs.length = bs.map bv
theorem Sl.of_own {w : World} {v : Value} {bs : List UInt8} (h : Byt.Own w v bs) (hv : v ≠ .slice none 0 0) : Sl w v bs := by
  rcases h.own.2 with e | ⟨g, cap, cur, h1, _, h2, h3, h4, h5, h6⟩
  · exact absurd e.1 hv
  · exact ⟨g, cap, cur, (0, 0), h1, h2, .inl rfl, h3, h4, by rw [h5, Nat.mul_one], by rw [Nat.mul_one] at h6; exact h6⟩
theorem Sl.calm {w w' : World} {v : Value} {bs : List UInt8} (h : Sl w v bs) (k : Keep (fun _ => False) w w') : Sl w' v bs := by
  obtain ⟨g, cap, cur, fz, h1, h2, h3⟩ := h
  exact ⟨g, cap, cur, fz, h1, k.get h2 (fun h => h), h3⟩
theorem Sl.lt {w : World} {v : Value} {bs : List UInt8} (h : Sl w v bs) (k : Nat) (hk : v.ownBlock = some k) : k < w.heap.size := by
  obtain ⟨g, cap, cur, fz, h1, h2, h3⟩ := h
  subst h1
  have e : g = k := Option.some.inj hk
  subst e
  exact lt_of_block h2
def slI (v : Value) (bs : List UInt8) : It := ⟨fun k => v.ownBlock = some k, fun w => Sl w v bs, fun _ _ _ h k n => by
  obtain ⟨g, cap, cur, fz, h1, h2, h3⟩ := h
  exact ⟨g, cap, cur, fz, h1, k.get h2 (n g (by rw [h1]; rfl)), h3⟩⟩
theorem M.addS {F : Nat → Prop} {w0 w w' : World} {l : List It} (h : M F w0 w l) {v : Value} {bs : List UInt8} (k1 : Keep (fun _ => False) w w') (h1 : Sl w' v bs) (g1 : ∀ k, v.ownBlock = some k → w.heap.size ≤ k) : M F w0 w' (l ++ [slI v bs]) :=
  h.add (x := slI v bs) k1 h1 (fun k hk => ⟨g1 k hk, h1.lt k hk⟩)
theorem M.appS {F : Nat → Prop} {w0 w w' : World} {l : List It} (h : M F w0 w l) (i : Nat) {v v' : Value} {bs bs' : List UInt8} (hi : l[i]? = some (slI v bs)) (h1 : Sl w' v' bs') (k1 : Keep (fun k => v.ownBlock = some k) w w') (g1 : ∀ k, v'.ownBlock = some k → v.ownBlock = some k ∨ w.heap.size ≤ k) : M F w0 w' (l.set i (slI v' bs')) :=
  h.upd i hi k1 (fun _ h => h) (y := slI v' bs') h1 (fun k hk => (g1 k hk).imp id (fun e => ⟨e, h1.lt k hk⟩))
theorem Sl.app {w : World} {v : Value} {bs : List UInt8} (h : Sl w v bs) {g : Nat} {d : UInt8} {fr : Nat × Nat} (hg : w.heap[g]? = some (.cells #[bv d] 5 fr)) (hm : bs.length ≤ 1000000) (ty : TypeId) :
    ∃ v' w', (Builtin.append_ #[81, 81] ty #[v, .slice (some ⟨g, 0, none⟩) 1 1]).run Tryd.prog w = .ok v' w' ∧ Sl w' v' (bs ++ [d]) ∧ Keep (fun k => v.ownBlock = some k) w w' ∧ ∀ k, v'.ownBlock = some k → v.ownBlock = some k ∨ w.heap.size ≤ k := by
  obtain ⟨g0, cap, cur, fz, rfl, hg0, hfz, hle, hcm, hsz, htk⟩ := h
  obtain ⟨i, hi, hz, hs1, hby⟩ := slU8.info
  have hl1 : (bs ++ [d]).length = bs.length + 1 := by simp
  by_cases hroom : bs.length + 1 ≤ cap
  · have hcell : (w.cell? ⟨g0, bs.length, none⟩).isSome = true := by rw [cell_of hg0]; rw [Array.getElem?_eq_getElem (by omega)]; rfl
    have hfr : w.frozen? ⟨g0, bs.length, none⟩ = false := by
      unfold World.frozen?
      simp only [hg0]
      rcases hfz with e | e <;> subst e <;> simp <;> omega
    refine ⟨_, _, run_append_room_cells (P := Tryd.prog) w _ ty _ i slU8.und hi g0 0 bs.length cap ⟨g, 0, none⟩ 1 1 [bv d] (by rw [hs1]; rfl) (World.news_of_block hg) (by simp [bv, Value.oneCell']) hroom (fun j hj => ?_) (fun j hj => ?_), ?_, ?_, fun k hk => .inl hk⟩
    · obtain rfl : j = 0 := by simpa using hj
      simpa [hs1] using hcell
    · obtain rfl : j = 0 := by simpa using hj
      simpa [hs1] using hfr
    · refine ⟨g0, cap, cur.setIfInBounds (0 + bs.length * i.size) (bv d), fz, by rw [hl1], block_set hg0 _, by rw [Array.size_setIfInBounds]; exact hfz, by rw [hl1]; exact hroom, hcm, by rw [Array.size_setIfInBounds]; exact hsz, ?_⟩
      rw [hs1, Nat.mul_one, Nat.zero_add, hl1, Array.toList_setIfInBounds, List.take_add_one, List.take_set_of_le (Nat.le_refl _), htk, List.getElem?_set_self (by have e : cur.toList.length = cur.size := Array.length_toList; omega), List.map_append]
      rfl
    · exact (Keep.refl _ _).setCell _ _ (fun _ => rfl)
  · obtain ⟨v', w', hr, h2, h3⟩ := run_append_arg_grows (P := Tryd.prog) w _ ty _ i _ 1 1 slU8.und hi hz hs1 hby rfl (by omega) ⟨g0, 0, none⟩ bs.length cap (bs.map bv) (by simp) (fun j u hj => by
      rw [← htk] at hj
      have hj2 := (List.getElem?_eq_some_iff.1 hj).1
      rw [List.length_take] at hj2
      rw [List.getElem?_take_of_lt (by omega)] at hj
      rw [Addr.add_mid, Nat.zero_add, cell_of hg0, ← Array.getElem?_toList]
      exact hj) ⟨g, 0, none⟩ 1 1 [bv d] rfl (World.news_of_block hg) (by omega) (by unfold maxLen; omega) (by omega)
    have hne : v' ≠ .slice none 0 0 := by
      intro e
      rcases h2.2 with ⟨_, e2⟩ | ⟨g1, cap1, cur1, e2, _⟩
      · omega
      · rw [e] at e2; cases e2
    refine ⟨v', w', hr, Sl.of_own ⟨?_⟩ hne, (Keep.refl _ _).grown h3 (fun k e _ => by cases e), ?_⟩
    · rw [hl1, List.map_append]
      refine ⟨h2.1, ?_⟩
      rcases h2.2 with e | ⟨g1, cap1, cur1, e1, _, e2⟩
      · exact .inl e
      · exact .inr ⟨g1, cap1, cur1, e1, Nat.zero_le _, e2⟩
    · intro k hk
      rcases h2.2 with ⟨_, e2⟩ | ⟨g1, cap1, cur1, e1, e2, _⟩
      · omega
      · subst e1
        have e : g1 = k := Option.some.inj hk
        exact .inr (by omega)
section
variable {ops : Array Oper} {rest : List Oper} {o : Oper} {a : Act} {w : World} {K : Act → World → Prop} {Q : Exit → Act → World → Prop}
theorem wp_sl1 {s x : Operand} (ho : o.op = .call { callee := .builtin .append, args := #[s, x], argTypes := #[81, 81] }) {v : Value} {bs : List UInt8} (hs : a.eval s = v) (hown : Sl w v bs)
    {g : Nat} (hx : a.eval x = .slice (some ⟨g, 0, none⟩) 1 1) {d : UInt8} {fr : Nat × Nat} (hg : w.heap[g]? = some (.cells #[bv d] 5 fr)) (hm : bs.length ≤ 1000000)
    (h : ∀ v' w', Sl w' v' (bs ++ [d]) → Keep (fun k => v.ownBlock = some k) w w' → (∀ k, v'.ownBlock = some k → v.ownBlock = some k ∨ w.heap.size ≤ k) → K (a.put o.dst v') w') : o.wp Tryd.prog a w K Q := by
  obtain ⟨v', w', hr, h1, h2, h3⟩ := hown.app hg hm o.type
  unfold Oper.wp execOp
  simp only [ho, resolve, invoke, builtin, Sem.run_bind, Sem.run_pure, Result.andThen_ok, List.map_toArray, List.map_cons, List.map_nil, hs, hx, hr]
  exact h v' w' h1 h2 h3
theorem wl_sl1 (hgd : o.guard = none) {s x : Operand} (ho : o.op = .call { callee := .builtin .append, args := #[s, x], argTypes := #[81, 81] }) {v : Value} {bs : List UInt8} (hs : a.eval s = v) (hown : Sl w v bs)
    {g : Nat} (hx : a.eval x = .slice (some ⟨g, 0, none⟩) 1 1) {d : UInt8} {fr : Nat × Nat} (hg : w.heap[g]? = some (.cells #[bv d] 5 fr)) (hm : bs.length ≤ 1000000)
    (h : ∀ v' w', Sl w' v' (bs ++ [d]) → Keep (fun k => v.ownBlock = some k) w w' → (∀ k, v'.ownBlock = some k → v.ownBlock = some k ∨ w.heap.size ≤ k) → wpList Tryd.prog ops Q rest (a.put o.dst v') w') : wpList Tryd.prog ops Q (o :: rest) a w :=
  wpList_plain hgd fun _ hK => wp_sl1 ho hs hown hx hg hm fun v' w' h1 h2 h3 => hK _ _ (h v' w' h1 h2 h3)
theorem wl_ofStr (hgd : o.guard = none) {x : Operand} (ho : o.op = .convert 9 81 x) {s : ByteArray} (hx : a.eval x = .string s) (hm : s.size ≤ 1000000)
    (h : ∀ v' w', Sl w' v' s.data.toList → Keep (fun _ => False) w w' → (∀ k, v'.ownBlock = some k → w.heap.size ≤ k) → wpList Tryd.prog ops Q rest (a.put o.dst v') w') : wpList Tryd.prog ops Q (o :: rest) a w :=
  wpList_plain hgd fun K hK => by
    have hr := run_bytes_of_string (P := Tryd.prog) w 9 81 5 s Tryd.underlying9 Tryd.underlying81 Tryd.underlying5
    have hge := grownCap_ge w s.size 0 5
    have hle := grownCap_le_maxLen w s.size 0 5 (by unfold maxLen; omega)
    generalize grownCap w s.size 0 5 = cap at *
    have hsz : (bytesRow s cap).size = cap := by unfold bytesRow; simp; omega
    unfold Oper.wp execOp
    simp only [ho, hx, Sem.run_bind, hr, Result.andThen_ok]
    refine hK _ _ (h _ _ ⟨w.heap.size, cap, bytesRow s cap, _, rfl, heap_alloc_new w.drew _, .inr rfl, hge, hle, hsz, ?_⟩ ((Keep.refl _ _).drew.alloc _) (fun k hk => ?_))
    · have e : s.data.toList.length = s.size := rfl
      unfold bytesRow
      rw [Array.toList_append, Array.toList_map, List.take_append_of_le_length (by rw [List.length_map, e]; exact Nat.le_refl _), List.take_of_length_le (by rw [List.length_map]; exact Nat.le_refl _)]
      rfl
    · have e : w.heap.size = k := Option.some.inj hk
      omega
end
theorem flat_at (r : R8) (k : Nat) (h : k < 32) : ((toL r).flatMap wb)[k]? = some ((((toL r).getD (k / 4) 0) >>> UInt32.ofNat (24 - 8 * (k % 4))).toUInt8) := by
  have e0 (x : UInt32) : x >>> (UInt32.ofNat 0) = x := by simp
  have h0 : k / 4 = 0 ∨ k / 4 = 1 ∨ k / 4 = 2 ∨ k / 4 = 3 ∨ k / 4 = 4 ∨ k / 4 = 5 ∨ k / 4 = 6 ∨ k / 4 = 7 := by omega
  have h1 : k % 4 = 0 ∨ k % 4 = 1 ∨ k % 4 = 2 ∨ k % 4 = 3 := by omega
  have hk : k = 4 * (k / 4) + k % 4 := by omega
  generalize k / 4 = q at *
  generalize k % 4 = m at *
  subst hk
  rcases h1 with rfl | rfl | rfl | rfl <;> rcases h0 with rfl | rfl | rfl | rfl | rfl | rfl | rfl | rfl <;> first | rfl | (rw [show 24 - 8 * 3 = 0 from rfl, e0]; rfl)
/-- What is laid of the sum. -/
def os (F : List UInt8) (k : Nat) : Array Value := ((F.take k ++ List.replicate (32 - k) 0).map bv).toArray
theorem os_at (F : List UInt8) (hF : F.length = 32) (k : Nat) (h : k < 32) : (os F k)[k]? = some (bv 0) := by
  unfold os
  rw [List.getElem?_toArray, List.getElem?_map, List.getElem?_append_right (by rw [List.length_take]; omega), List.length_take, List.getElem?_replicate, if_pos (by omega)]
  rfl
theorem os_set (F : List UInt8) (hF : F.length = 32) (k : Nat) (b : UInt8) (h : F[k]? = some b) : (os F k).setIfInBounds k (bv b) = os F (k + 1) := by
  have hk : k < F.length := (List.getElem?_eq_some_iff.1 h).1
  unfold os
  rw [List.setIfInBounds_toArray]
  refine congrArg List.toArray ?_
  rw [← List.map_set, List.set_append, if_neg (by rw [List.length_take]; omega), List.length_take, show k - min k F.length = 0 by omega, show 32 - k = (32 - (k + 1)) + 1 by omega, List.replicate_succ, List.set_cons_zero, List.take_add_one, h, List.append_assoc]
  rfl
end Sha
end Go.Proofs.YthllhjdaknmlbaaDoor
