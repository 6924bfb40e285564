/-
  petrelref09.Cut: plain law; a field of an element stored; a thing moved.
-/
import Derived.Test.YthllhjdaknmlbaaMc2
import Derived.Test.YthllhjdaknmlbaaRows5
set_option linter.unusedVariables false
set_option linter.unusedSimpArgs false
namespace Go.Proofs.Ythllhjdaknmlbaa
open Go.RowKit
namespace Mem
theorem M.moveLast {F : Nat → Prop} {w0 w : World} {l : List It} {y : It} (h : M F w0 w (l ++ [y])) (i : Nat) (hi : i < l.length) : M F w0 w (l.set i y) := by
  have at_ : ∀ (j : Nat) (z : It), (l.set i y)[j]? = some z → ∃ k, (l ++ [y])[k]? = some z ∧ ((j = i ∧ k = l.length) ∨ (j ≠ i ∧ k = j ∧ j < l.length)) := by
    intro j z hj
    have hlt := (List.getElem?_eq_some_iff.1 hj).1
    rw [List.length_set] at hlt
    by_cases e : j = i
    · subst e
      rw [List.getElem?_set_self hi] at hj
      cases hj
      exact ⟨l.length, by simp, .inl ⟨rfl, rfl⟩⟩
    · rw [List.getElem?_set_ne (Ne.symm e)] at hj
      exact ⟨j, by rw [List.getElem?_append_left hlt]; exact hj, .inr ⟨e, rfl, hlt⟩⟩
  refine ⟨fun j z hj => ?_, fun j m z u hj hm hjm b hz hu => ?_, fun j z hj b hb => ?_, h.keep⟩
  · obtain ⟨k, hk, _⟩ := at_ j z hj
    exact h.all k z hk
  · obtain ⟨k1, hk1, e1⟩ := at_ j z hj
    obtain ⟨k2, hk2, e2⟩ := at_ m u hm
    exact h.dis k1 k2 z u hk1 hk2 (by omega) b hz hu
  · obtain ⟨k, hk, _⟩ := at_ j z hj
    exact h.rng k z hk b hb
end Mem
namespace St
open Oct
section
variable {α : Type} {T : TypeId} {n : Nat} {enc : α → List Value} {w : World}
theorem set_at (hE : Enc n enc) {els : List α} {cur : List Value} {q k j : Nat} (hq : q = els.length) (hk : k < q) (hc : q * n ≤ cur.length) (ht : cur.take (q * n) = els.flatMap enc) {x y : α} (hx : els[k]? = some x) (hj : j < n) {u : Value} (hy : enc y = (enc x).set j u) :
    (cur.set (k * n + j) u).take (q * n) = (els.set k y).flatMap enc := by
  have hkq : k * n + n ≤ q * n := by rw [← Nat.succ_mul]; exact Nat.mul_le_mul_right n hk
  have e0 : (cur.drop (k * n)).take n = enc x := by
    have e1 : (els.flatMap enc).drop (k * n) = (els.drop k).flatMap enc := flat_drop hE els k
    rw [← ht, List.drop_take] at e1
    have e2 : els.drop k = x :: els.drop (k + 1) := by
      obtain ⟨hlt, e⟩ := List.getElem?_eq_some_iff.1 hx
      rw [List.drop_eq_getElem_cons hlt, e]
    rw [e2, List.flatMap_cons] at e1
    have e3 := congrArg (List.take n) e1
    rw [List.take_take, Nat.min_eq_left (by omega)] at e3
    rw [e3, List.take_append, hE.len, Nat.sub_self, List.take_zero, List.append_nil]
    exact List.take_of_length_le (by rw [hE.len]; exact Nat.le_refl _)
  have e4 : cur = cur.take (k * n) ++ (enc x ++ cur.drop (k * n + n)) := by
    conv => lhs; rw [← List.take_append_drop (k * n) cur, ← List.take_append_drop n (cur.drop (k * n)), e0, List.drop_drop]
  have l1 : (cur.take (k * n)).length = k * n := by rw [List.length_take]; omega
  have e5 : cur.set (k * n + j) u = cur.take (k * n) ++ enc y ++ cur.drop (k * n + n) := by
    conv => lhs; rw [e4]
    rw [List.set_append_right _ _ (by rw [l1]; omega), l1, Nat.add_sub_cancel_left, List.set_append_left _ _ (by rw [hE.len]; exact hj), hy, List.append_assoc]
  rw [e5]
  exact set_list hE hq hk hc ht y
/-- A field of an element stored. -/
theorem Own.setAt (hE : Enc n enc) {g q c k j : Nat} {els : List α} (hown : Own T n enc w (.slice (some ⟨g, 0, none⟩) q c) els) {x y : α} (hx : els[k]? = some x) (hj : j < n) {u : Value} (hy : enc y = (enc x).set j u) :
    Own T n enc (w.setCell ⟨g, k * n + j, none⟩ u) (.slice (some ⟨g, 0, none⟩) q c) (els.set k y) := by
  obtain ⟨hn, cur, hg, hnc, hc, hsz, ht⟩ := hown.block
  have hk : k < q := by rw [hn]; exact (List.getElem?_eq_some_iff.1 hx).1
  have hl : (els.set k y).length = els.length := List.length_set
  have hcl : q * n ≤ cur.toList.length := by rw [Array.length_toList, hsz]; exact Nat.mul_le_mul_right _ hnc
  have e := set_at hE hn hk hcl ht hx hj hy
  refine ⟨⟨by rw [hE.flat, hl], .inr ⟨g, c, cur.setIfInBounds (k * n + j) u, by rw [hl, hn], Nat.zero_le _, block_set hg u, by rw [hl]; omega, hc, by rw [Array.size_setIfInBounds, hsz], ?_⟩⟩, fun x _ => hE.len x⟩
  rw [hl, ← hn, Array.toList_setIfInBounds]
  exact e
theorem Own.cellAt (hE : Enc n enc) {g q c k j : Nat} {els : List α} (hown : Own T n enc w (.slice (some ⟨g, 0, none⟩) q c) els) {x : α} (hx : els[k]? = some x) {v : Value} (hv : (enc x)[j]? = some v) : w.cell? ⟨g, k * n + j, none⟩ = some v ∧ w.frozen? ⟨g, k * n + j, none⟩ = false := by
  obtain ⟨hn, cur, hg, _⟩ := hown.block
  obtain ⟨rfl, hat⟩ := hown.slice
  rcases hat.lay with e | ⟨b, off, e, _, hr⟩
  · have := (List.getElem?_eq_some_iff.1 hx).1
    omega
  · cases e
    have := hr k x hx j v hv
    rw [Nat.zero_add] at this
    exact ⟨this, free_of hg⟩
end
end St
namespace Mc
open Oct Ids
/-- What stands ahead of the i-th id's being laid down. -/
def ahead (l : List (List UInt8)) (i : Nat) : List (List (List UInt8)) := (List.range (i / 16)).map (ck l) ++ [(l.drop (16 * (i / 16))).take (i % 16)]
theorem ck_take {l : List (List UInt8)} {i j : Nat} (h : 16 * j + 16 ≤ i) : ck (l.take i) j = ck l j := by
  unfold ck
  rw [List.drop_take, List.take_take, Nat.min_eq_left (by omega)]
theorem ck_last {l : List (List UInt8)} {m r : Nat} (h : r ≤ 16) : ck (l.take (16 * m + r)) m = (l.drop (16 * m)).take r := by
  unfold ck
  rw [List.drop_take, List.take_take, Nat.add_sub_cancel_left, Nat.min_eq_right h]
theorem chunks_at {l : List (List UInt8)} {i : Nat} (h : i ≤ l.length) : chunks (l.take i) = (List.range (i / 16)).map (ck l) ++ (if i % 16 = 0 then [] else [(l.drop (16 * (i / 16))).take (i % 16)]) := by
  obtain ⟨m, hm⟩ : ∃ m, i / 16 = m := ⟨_, rfl⟩
  obtain ⟨r, hr⟩ : ∃ r, i % 16 = r := ⟨_, rfl⟩
  have hi : i = 16 * m + r := by omega
  have hr16 : r < 16 := by omega
  have e1 : ∀ j ∈ List.range m, ck (l.take i) j = ck l j := fun j hj => ck_take (by have := List.mem_range.1 hj; omega)
  unfold chunks
  rw [List.length_take, Nat.min_eq_left h, hm, hr]
  by_cases h0 : r = 0
  · rw [if_pos h0, show (i + 15) / 16 = m by omega, List.map_congr_left e1, List.append_nil]
  · rw [if_neg h0, show (i + 15) / 16 = m + 1 by omega, List.range_succ, List.map_append, List.map_congr_left e1, List.map_cons, List.map_nil, hi, ck_last (by omega)]
theorem ahead_new {l : List (List UInt8)} {i : Nat} (h : i ≤ l.length) (h0 : i % 16 = 0) : ahead l i = chunks (l.take i) ++ [[]] := by
  rw [chunks_at h, if_pos h0, List.append_nil]
  unfold ahead
  rw [h0, List.take_zero]
theorem ahead_old {l : List (List UInt8)} {i : Nat} (h : i ≤ l.length) (h0 : i % 16 ≠ 0) : ahead l i = chunks (l.take i) := by
  rw [chunks_at h, if_neg h0]
  rfl
theorem ahead_len (l : List (List UInt8)) (i : Nat) : (ahead l i).length = i / 16 + 1 := by unfold ahead; simp
theorem ahead_at (l : List (List UInt8)) (i : Nat) : (ahead l i)[i / 16]? = some ((l.drop (16 * (i / 16))).take (i % 16)) := by
  unfold ahead
  rw [List.getElem?_append_right (by simp)]
  simp
theorem ahead_set {l : List (List UInt8)} {i : Nat} {x : List UInt8} (hx : l[i]? = some x) : (ahead l i).set (i / 16) ((l.drop (16 * (i / 16))).take (i % 16) ++ [x]) = chunks (l.take (i + 1)) := by
  have hlt := (List.getElem?_eq_some_iff.1 hx).1
  obtain ⟨m, hm⟩ : ∃ m, i / 16 = m := ⟨_, rfl⟩
  obtain ⟨r, hr⟩ : ∃ r, i % 16 = r := ⟨_, rfl⟩
  have hi : i = 16 * m + r := by omega
  have hr16 : r < 16 := by omega
  have e1 : (l.drop (16 * m)).take r ++ [x] = (l.drop (16 * m)).take (r + 1) := by
    rw [List.take_add_one, List.getElem?_drop, ← hi, hx]
    rfl
  unfold ahead
  rw [hm, hr, e1, List.set_append_right _ _ (by simp), List.length_map, List.length_range, Nat.sub_self, List.set_cons_zero, chunks_at (by omega)]
  by_cases h15 : r = 15
  · rw [if_pos (by omega), List.append_nil, show (i + 1) / 16 = m + 1 by omega, List.range_succ, List.map_append, h15]
    rfl
  · rw [if_neg (by omega), show (i + 1) / 16 = m by omega, show (i + 1) % 16 = r + 1 by omega]
theorem chunks_nil : chunks [] = [] := rfl
theorem flat_map_ck (l : List (List UInt8)) : ∀ m, ((List.range m).map (ck l)).flatten = l.take (16 * m)
  | 0 => by simp
  | m + 1 => by
    rw [List.range_succ, List.map_append, List.flatten_append, flat_map_ck l m]
    simp only [List.map_cons, List.map_nil, List.flatten_cons, List.flatten_nil, List.append_nil]
    unfold ck
    rw [show 16 * (m + 1) = 16 * m + 16 by omega, List.take_add]
theorem chunks_flat (l : List (List UInt8)) : (chunks l).flatten = l := by
  unfold chunks
  rw [flat_map_ck, List.take_of_length_le (by omega)]
theorem chunks_mem {l u : List (List UInt8)} (h : u ∈ chunks l) : 1 ≤ u.length ∧ u.length ≤ 16 := by
  unfold chunks at h
  obtain ⟨k, hk, rfl⟩ := List.mem_map.1 h
  have := List.mem_range.1 hk
  rw [ck_len]
  omega
end Mc
end Go.Proofs.Ythllhjdaknmlbaa
