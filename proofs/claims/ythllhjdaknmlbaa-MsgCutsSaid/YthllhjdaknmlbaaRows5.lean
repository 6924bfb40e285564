/-
  Rows of structs of one's own: one stored.
-/
import Derived.Test.YthllhjdaknmlbaaRows4
set_option linter.unusedVariables false
set_option linter.unusedSimpArgs false
namespace Go.Proofs.Ythllhjdaknmlbaa
open Go.RowKit
namespace St
open Oct
section
variable {α : Type} {T t : TypeId} {n : Nat} {enc : α → List Value} {w : World} {Z : Array Value}
theorem flat_take (hE : Enc n enc) : ∀ (l : List α) (k : Nat), (l.flatMap enc).take (k * n) = (l.take k).flatMap enc
  | [], k => by simp
  | x :: l, 0 => by simp
  | x :: l, k + 1 => by
    have hx := hE.len x
    rw [List.take_succ_cons, List.flatMap_cons, List.flatMap_cons, ← flat_take hE l k, List.take_append, List.take_of_length_le (by rw [hx, Nat.succ_mul]; omega), hx, Nat.succ_mul, Nat.add_sub_cancel]
theorem flat_drop (hE : Enc n enc) : ∀ (l : List α) (k : Nat), (l.flatMap enc).drop (k * n) = (l.drop k).flatMap enc
  | [], k => by simp
  | x :: l, 0 => by simp
  | x :: l, k + 1 => by
    have hx := hE.len x
    rw [List.drop_succ_cons, List.flatMap_cons, ← flat_drop hE l k, List.drop_append, List.drop_of_length_le (by rw [hx, Nat.succ_mul]; omega), hx, Nat.succ_mul, Nat.add_sub_cancel, List.nil_append]
theorem set_list (hE : Enc n enc) {els : List α} {cur : List Value} {q k : Nat} (hq : q = els.length) (hk : k < q) (hc : q * n ≤ cur.length) (ht : cur.take (q * n) = els.flatMap enc) (x : α) :
    (cur.take (k * n) ++ enc x ++ cur.drop (k * n + n)).take (q * n) = (els.set k x).flatMap enc := by
  have hkq : k * n + n ≤ q * n := by rw [← Nat.succ_mul]; exact Nat.mul_le_mul_right n hk
  have e1 : cur.take (k * n) = (els.take k).flatMap enc := by
    rw [← flat_take hE els k, ← ht, List.take_take, Nat.min_eq_left (by omega)]
  have e2 : (cur.drop (k * n + n)).take (q * n - (k * n + n)) = (els.drop (k + 1)).flatMap enc := by
    rw [← flat_drop hE els (k + 1), ← ht, Nat.succ_mul, List.drop_take]
  have l1 : (cur.take (k * n)).length = k * n := by rw [List.length_take]; omega
  have l2 : (cur.take (k * n) ++ enc x).length = k * n + n := by rw [List.length_append, l1, hE.len]
  rw [List.take_append, List.take_of_length_le (by rw [l2]; omega), l2, e2, e1, List.set_eq_take_append_cons_drop, if_pos (by omega), List.flatMap_append, List.flatMap_cons, List.append_assoc]
theorem Own.block {g q c : Nat} {els : List α} (h : Own T n enc w (.slice (some ⟨g, 0, none⟩) q c) els) : q = els.length ∧ ∃ cur, w.heap[g]? = some (.cells cur T (0, 0)) ∧ q ≤ c ∧ c ≤ maxLen ∧ cur.size = c * n ∧ cur.toList.take (q * n) = els.flatMap enc := by
  obtain ⟨hl, h1 | ⟨g', cap, cur, e, _, hg, hn, hc, hsz, htk⟩⟩ := h.own
  · cases h1.1
  · cases e
    exact ⟨rfl, cur, hg, hn, hc, hsz, htk⟩
variable {ops : Array Oper} {rest : List Oper} {o : Oper} {a : Act} {K : Act → World → Prop} {Q : Exit → Act → World → Prop}
/-- 's[k] = x' in a row of one's own. -/
theorem wp_set (hE : Enc n enc) (hT : Ty T n Z) {x y : Operand} (ho : o.op = .store T x y) (hd : o.dst = none) {g q c k : Nat} {els : List α} (hown : Own T n enc w (.slice (some ⟨g, 0, none⟩) q c) els) (hx : a.eval x = .pointer (some ⟨g, k * n, none⟩)) (hk : k < q) (u : α) {cs : Array Value} (hy : a.eval y = .agg cs) (hcs : (enc u).toArray = cs)
    (h : ∀ w', Own T n enc w' (.slice (some ⟨g, 0, none⟩) q c) (els.set k u) → Keep (fun b => b = g) w w' → K a w') : o.wp Try.prog a w K Q := by
  subst hcs
  obtain ⟨hn, cur, hg, hnc, hc, hsz, ht⟩ := hown.block
  have hcl : q * n ≤ cur.toList.length := by rw [Array.length_toList, hsz]; exact Nat.mul_le_mul_right _ hnc
  have hkq : k * n + n ≤ q * n := by rw [← Nat.succ_mul]; exact Nat.mul_le_mul_right n hk
  have hus : (enc u).toArray.size = n := by rw [List.size_toArray, hE.len]
  refine St.wp_storeMid hT ho hd hx hy hus (hE.all u) hg (by rw [Array.length_toList] at hcl; omega) rfl (h _ ?_ ((Keep.refl _ _).setRow g _ (fun _ => rfl)))
  refine ⟨?_, fun x _ => hE.len x⟩
  have hl : (els.set k u).length = els.length := List.length_set
  have e := set_list hE hn hk hcl ht u
  rw [hn] at e
  refine ⟨by rw [hE.flat, hl], .inr ⟨g, c, _, by rw [hl, hn], Nat.zero_le _, setRow_heap w g _ _ _ _ hg, by rw [hl]; omega, hc, ?_, ?_⟩⟩
  · have : cur.toList.length = c * n := by rw [Array.length_toList, hsz]
    simp only [List.size_toArray, List.length_append, List.length_take, List.length_drop, List.toList_toArray, hE.len]
    omega
  · rw [hl]
    simpa using e
end
end St
end Go.Proofs.Ythllhjdaknmlbaa
