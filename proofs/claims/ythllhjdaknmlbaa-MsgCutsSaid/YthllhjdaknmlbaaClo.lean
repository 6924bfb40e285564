/-
  Ids: rows appended to rows; slices.Clone, Grow, Concat.
-/
import Derived.Test.YthllhjdaknmlbaaGMm
import Derived.Lib.SliceRun
set_option linter.unusedVariables false
set_option linter.unusedSimpArgs false
namespace Go.Proofs.Ythllhjdaknmlbaa
open Go.RowKit
namespace Ids
open Oct
theorem Own.of {w : World} {g n c : Nat} {els : List (List UInt8)} {cur : Array Value} (he : n = els.length) (hs : ∀ x ∈ els, x.length = 32) (hg : w.heap[g]? = some (.cells cur 41 (0, 0))) (hn : n ≤ c) (hc : c ≤ maxLen) (hsz : cur.size = c * 32) (ht : cur.toList.take (n * 32) = els.flatten.map bv) : Own w (.slice (some ⟨g, 0, none⟩) n c) els := by
  subst he
  exact ⟨⟨by rw [List.length_map, flat_len els hs]; omega, .inr ⟨g, c, cur, rfl, Nat.zero_le _, hg, hn, hc, hsz, ht⟩⟩, hs⟩
/-- What a row yields that is appended. -/
theorem At.src {w : World} {a : Option Addr} {n : Nat} {els : List (List UInt8)} (h : At w a n els) (c : Nat) : Src Try.prog 32 22 (.slice a n c) n (els.flatten.map bv) w := by
  have hl : (els.flatten.map bv).length = n * 32 := by rw [List.length_map, flat_len els h.size, h.len]; omega
  have h1 : ∀ u ∈ els.flatten.map bv, u.oneCell' = true := by
    intro u hu
    obtain ⟨x, _, rfl⟩ := List.mem_map.1 hu
    rfl
  rcases h.lay with hn | ⟨b, off, rfl, hb, hr⟩
  · subst hn
    have he : els = [] := List.eq_nil_of_length_eq_zero h.len
    subst he
    cases a with
    | none => exact Src.ofNil w Try.underlying22 c
    | some ad => exact Src.ofSlice w Try.underlying22 ad 0 c [] rfl (fun j u hj => by simp at hj) (by simp)
  · refine Src.ofSlice w Try.underlying22 ⟨b, off, none⟩ n c _ hl (fun j u hj => ?_) h1
    have hj' : j < n * 32 := by rw [← hl]; exact (List.getElem?_eq_some_iff.1 hj).1
    have hi : j / 32 < els.length := by rw [h.len]; omega
    have hx := List.getElem?_eq_getElem hi
    have e := flat_at els h.size (j / 32) _ hx (j % 32) (Nat.mod_lt _ (by omega))
    rw [show j / 32 * 32 + j % 32 = j by omega] at e
    rw [List.getElem?_map, e, ← List.getElem?_map] at hj
    have := hr (j / 32) _ hx (j % 32) u hj
    rw [Addr.add_mid]
    rwa [show off + j / 32 * 32 + j % 32 = off + j by omega] at this
section
variable {ops : Array Oper} {rest : List Oper} {o : Oper} {a : Act} {w : World} {K : Act → World → Prop} {Q : Exit → Act → World → Prop}
/-- 'append(s, m...)'. -/
theorem wp_appR {s x : Operand} (ho : o.op = .call { callee := .builtin .append, args := #[s, x], argTypes := #[22, 22] }) {v : Value} {els : List (List UInt8)} (hs : a.eval s = v) (hown : Own w v els)
    {ad : Option Addr} {n c : Nat} {new : List (List UInt8)} (hx : a.eval x = .slice ad n c) (hat : At w ad n new) (hm : els.length + n ≤ 1000000)
    (h : ∀ v' w', Own w' v' (els ++ new) → Keep (fun k => v.ownBlock = some k) w w' → (v'.ownBlock = v.ownBlock ∨ v'.ownBlock = some w.heap.size) → K (a.put o.dst v') w') : o.wp Try.prog a w K Q := by
  refine wp_app_src slId ho (xs := els.flatten.map bv) (v := v) (n := els.length) hs hown.own hx (hat.src c) (by unfold maxLen; omega) (by omega) ?_
  intro v' w' hA
  refine h v' w' ⟨?_, ?_⟩ hA.keep hA.at_
  · have e := hA.own
    rw [← List.map_append] at e
    simpa [hat.len] using e
  · intro y hy
    rcases List.mem_append.1 hy with hy | hy
    · exact hown.size y hy
    · exact hat.size y hy
theorem wl_appR (hgd : o.guard = none) {s x : Operand} (ho : o.op = .call { callee := .builtin .append, args := #[s, x], argTypes := #[22, 22] }) {v : Value} {els : List (List UInt8)} (hs : a.eval s = v) (hown : Own w v els)
    {ad : Option Addr} {n c : Nat} {new : List (List UInt8)} (hx : a.eval x = .slice ad n c) (hat : At w ad n new) (hm : els.length + n ≤ 1000000)
    (h : ∀ v' w', Own w' v' (els ++ new) → Keep (fun k => v.ownBlock = some k) w w' → (v'.ownBlock = v.ownBlock ∨ v'.ownBlock = some w.heap.size) → wpList Try.prog ops Q rest (a.put o.dst v') w') : wpList Try.prog ops Q (o :: rest) a w :=
  wpList_plain hgd fun _ hK => wp_appR ho hs hown hx hat hm fun v' w' h1 h2 h3 => hK _ _ (h v' w' h1 h2 h3)
theorem run_build0 (w : World) : (Instr.buildSlice 22 0 #[]).run Try.prog w = .ok (.slice (some ⟨w.heap.size, 0, none⟩) 0 0) (w.alloc (.cells #[] 41)) := by
  obtain ⟨i, hi, hz, hs, _⟩ := slId.info
  simp [Instr.buildSlice, run_underlying Try.underlying22, sizeOf, typeInfo, hi, Instr.fill, newRow]
  exact congrArg (fun z => w.alloc (Obj.cells z 41)) (by simp)
/-- '[]api.Id{}'. -/
theorem wl_build0 (hgd : o.guard = none) (ho : o.op = .buildSlice 22 0 #[]) (h : Own (w.alloc (.cells #[] 41)) (.slice (some ⟨w.heap.size, 0, none⟩) 0 0) [] → wpList Try.prog ops Q rest (a.put o.dst (.slice (some ⟨w.heap.size, 0, none⟩) 0 0)) (w.alloc (.cells #[] 41))) : wpList Try.prog ops Q (o :: rest) a w :=
  wpList_plain hgd fun K hK => by
    unfold Oper.wp execOp
    simp only [ho, Sem.run_bind, List.map_toArray, List.map_nil, Array.map_empty, run_build0 w, Result.andThen_ok]
    exact hK _ _ (h (Own.of rfl (by simp) (heap_alloc_new w _) (Nat.le_refl _) (by unfold maxLen; omega) rfl rfl))
end
/-- A row that is new: nobody's that was there. -/
def New (w w' : World) (v : Value) (els : List (List UInt8)) : Prop := Own w' v els ∧ Keep (fun _ => False) w w' ∧ ∀ k, v.ownBlock = some k → w.heap.size ≤ k
set_option maxRecDepth 100000 in
set_option maxHeartbeats 1000000 in
theorem clone_any (w : World) (a : Option Addr) (n c : Nat) (els : List (List UInt8)) (h : At w a n els) (hm : n ≤ 1000000) :
    Calls Try.prog 13 #[.slice a n c] w fun e w' => ∃ v, e = .returned v ∧ New w w' v els := by
  have H : Hid _ := h
  clear h
  cases a with
  | none =>
    have hnil : ∀ (n' c' : Nat) (w : World), Sem.run Try.prog (binOp .eql 22 (.slice none n' c') (.slice none 0 0)) w = .ok (.bool true) w := fun n' c' w => Lib.run_eql_slice_nil w _ _ _ _ _ _ _ Try.underlying22
    have hn : n = 0 := by rcases H.out.lay with e | ⟨_, _, e, _⟩; exact e; cases e
    subst hn
    have he : els = [] := List.eq_nil_of_length_eq_zero H.out.len
    subst he
    go_enter Try.func13, Try.ntmps13
    go_wp2
    go_ret
    exact ⟨_, rfl, Own.nil w, Keep.refl _ _, fun k hk => by simp [Value.ownBlock] at hk⟩
  | some ad =>
    have hnil : ∀ (w : World), Sem.run Try.prog (binOp .eql 22 (.slice (some ad) n c) (.slice none 0 0)) w = .ok (.bool false) w := fun w => Lib.run_eql_slice_nil w _ _ _ _ _ _ _ Try.underlying22
    go_enter Try.func13, Try.ntmps13
    go_wp2_with (first | (refine wl_build0 rfl rfl ?_; intro h0; have H0 : Hid _ := h0; clear h0; simp only [Act.put, List.setIfInBounds_toArray, List.set_cons_zero, List.set_cons_succ]) | (refine wl_appR rfl rfl rfl H0.out rfl (H.out.calm ((Keep.refl _ _).alloc _)) (by simp; omega) ?_; intro v' w1 h1 h2 h3; have H1 : Hid _ := h1; have K1 : Hid _ := h2; have A1 : Hid _ := h3; clear h1 h2 h3; simp only [Act.put, List.setIfInBounds_toArray, List.set_cons_zero, List.set_cons_succ]))
    go_ret
    refine ⟨_, rfl, H1.out, ((Keep.refl (fun _ => False) w).alloc (.cells #[] 41)).trans' K1.out (fun _ _ h => h) (fun k hk e => ?_), fun k hk => ?_⟩
    · have e' : w.heap.size = k := Option.some.inj e
      omega
    · have hk' : v'.ownBlock = some k := hk
      rcases A1.out with e | e
      · have e' : w.heap.size = k := Option.some.inj (e.symm.trans hk')
        omega
      · have e' := Option.some.inj (e.symm.trans hk')
        simp at e'
        omega
end Ids
end Go.Proofs.Ythllhjdaknmlbaa
