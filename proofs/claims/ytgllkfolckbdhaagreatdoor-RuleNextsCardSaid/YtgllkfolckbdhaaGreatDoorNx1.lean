/-
  The order of heads, by their keys: plain law.
-/
import Derived.Test.YtgllkfolckbdhaaGreatDoorRu6
set_option linter.unusedVariables false
set_option linter.unusedSimpArgs false
namespace Go.Proofs.YtgllkfolckbdhaaGreatDoor
open Go.RowKit
namespace Nx
open Hd Ru
/-- A height and an id. -/
abbrev Key := Int × List UInt8
def kah (x y : Key) : Bool := ah x.1 x.2 y.1 y.2
theorem kah_anti {x y : Key} (h : kah x y = true) : kah y x = false := ah_anti _ _ _ _ h
theorem kah_trans {x y z : Key} (h : kah x y = true) (h2 : kah y z = true) : kah x z = true := ah_trans _ _ _ _ _ _ h h2
theorem kah_tot (x y : Key) : kah x y = true ∨ kah y x = true ∨ x = y := by
  have h := ah_tot x.1 x.2 y.1 y.2
  unfold kah
  cases h1 : ah x.1 x.2 y.1 y.2
  · cases h2 : ah y.1 y.2 x.1 x.2
    · rw [h1, h2] at h
      refine .inr (.inr ?_)
      have h3 : (x.1 == y.1 && x.2 == y.2) = true := by simpa using h.symm
      rw [Bool.and_eq_true, beq_iff_eq, beq_iff_eq] at h3
      exact Prod.ext h3.1 h3.2
    · exact .inr (.inl rfl)
  · exact .inl rfl
theorem kah_self (x : Key) : kah x x = false := by
  cases h : kah x x with
  | false => rfl
  | true => rw [kah_anti h] at h; cases h
/-- Not ahead of the next: from the last one to the first one. -/
def kle (x y : Key) : Bool := !kah x y
theorem kle_iff (x y : Key) : kle x y = true ↔ kah x y = false := by unfold kle; simp
theorem kle_or {x y : Key} (h : kah x y = false) : kah y x = true ∨ x = y := (kah_tot x y).resolve_left (by rw [h]; decide)
theorem knot_trans {x y z : Key} (h : kah x y = false) (h2 : kah y z = false) : kah x z = false := by
  rcases kle_or h with e | rfl
  · rcases kle_or h2 with e2 | rfl
    · exact kah_anti (kah_trans e2 e)
    · exact h
  · exact h2
theorem kle_trans (x y z : Key) (h : kle x y = true) (h2 : kle y z = true) : kle x z = true := by
  rw [kle_iff] at *
  exact knot_trans h h2
theorem kle_total (x y : Key) : (kle x y || kle y x) = true := by
  unfold kle
  cases h : kah x y with
  | false => simp
  | true => rw [kah_anti h]; simp
/-- All keys, the last one first. -/
def srtD (K : List Key) : List Key := K.mergeSort kle
def Dn (l : List Key) : Prop := l.Pairwise fun x y => kah x y = false
theorem srtD_dn (K : List Key) : Dn (srtD K) := (List.pairwise_mergeSort kle_trans kle_total K).imp fun h => (kle_iff _ _).1 h
theorem srtD_perm (K : List Key) : (srtD K).Perm K := List.mergeSort_perm K kle
theorem dn_uniq {l m : List Key} (h : Dn l) (h2 : Dn m) (hp : l.Perm m) : l = m :=
  List.Perm.eq_of_pairwise (fun a b _ _ h1 h2 => by rcases kle_or h1 with e | e; (rw [h2] at e; cases e); exact e) h h2 hp
theorem srtD_is {l K : List Key} (h : Dn l) (hp : l.Perm K) : srtD K = l := dn_uniq (srtD_dn K) h ((srtD_perm K).trans hp.symm)
/-- Those that were picked, one after the other, and those that are left. -/
structure Picked (K tk lf : List Key) : Prop where
  perm : (tk ++ lf).Perm K
  dn : Dn tk
  top : ∀ t ∈ tk, ∀ x ∈ lf, kah t x = false
theorem Picked.start (K : List Key) : Picked K [] K := ⟨List.Perm.refl _, List.Pairwise.nil, fun t h => by cases h⟩
theorem Picked.next {K tk lf : List Key} (h : Picked K tk lf) {k : Nat} {x : Key} (hx : lf[k]? = some x) (hm : ∀ y ∈ lf, kah x y = false) : Picked K (tk ++ [x]) (lf.take k ++ lf.drop (k + 1)) := by
  have hk := (List.getElem?_eq_some_iff.1 hx).1
  have e : lf = lf.take k ++ x :: lf.drop (k + 1) := by
    have := (List.getElem?_eq_some_iff.1 hx).2
    rw [← this, List.getElem_cons_drop, List.take_append_drop]
  have hxm : x ∈ lf := List.mem_of_getElem? hx
  have hsub : ∀ y ∈ lf.take k ++ lf.drop (k + 1), y ∈ lf := fun y hy => by
    rcases List.mem_append.1 hy with h | h
    · exact List.mem_of_mem_take h
    · exact List.mem_of_mem_drop h
  refine ⟨?_, ?_, fun t ht y hy => ?_⟩
  · refine List.Perm.trans ?_ h.perm
    rw [List.append_assoc]
    refine List.Perm.append_left tk ?_
    conv => rhs; rw [e]
    exact (List.perm_middle (a := x) (l₁ := lf.take k) (l₂ := lf.drop (k + 1))).symm
  · refine List.pairwise_append.2 ⟨h.dn, List.pairwise_singleton _ _, fun a ha b hb => ?_⟩
    obtain rfl := List.mem_singleton.1 hb
    exact h.top a ha b hxm
  · rcases List.mem_append.1 ht with h1 | h1
    · exact h.top t h1 y (hsub y hy)
    · obtain rfl := List.mem_singleton.1 h1
      exact hm y (hsub y hy)
theorem Picked.done {K tk lf : List Key} (h : Picked K tk lf) {n : Nat} (hn : tk.length ≤ n) (he : n ≤ tk.length ∨ lf = []) : (srtD K).take n = tk := by
  have e : srtD K = tk ++ srtD lf := by
    refine srtD_is (List.pairwise_append.2 ⟨h.dn, srtD_dn lf, fun a ha b hb => h.top a ha b ((srtD_perm lf).subset hb)⟩) ?_
    exact (List.Perm.append_left tk (srtD_perm lf)).trans h.perm
  rw [e]
  rcases he with he | he
  · have : tk.length = n := by omega
    rw [← this, List.take_left]
  · subst he
    have : srtD ([] : List Key) = [] := by unfold srtD; simp
    rw [this, List.append_nil, List.take_of_length_le hn]
/-- The key of a named one. -/
def nk (x : Nm) : Key := (x.h.G, x.id)
/-- Rising: nobody behind stands ahead. -/
def Up (l : List Nm) : Prop := l.Pairwise fun x y => kah (nk y) (nk x) = false
theorem up_rev {l : List Nm} (h : Up l) : Dn (l.reverse.map nk) := by
  unfold Dn
  rw [List.pairwise_map, List.pairwise_reverse]
  exact h
theorem od_neg (x y : Nm) : decide (od x y < 0) = kah (nk x) (nk y) := by
  have hp : ah x.h.G x.id y.h.G y.id = kah (nk x) (nk y) := rfl
  unfold od
  rw [hp]
  cases kah (nk x) (nk y)
  · rw [if_neg (by decide)]
    by_cases h : ah y.h.G y.id x.h.G x.id = true
    · rw [if_pos h]; decide
    · rw [if_neg h]; decide
  · rw [if_pos rfl]; decide
/-- What an insertion sort holds while one sinks: those ahead of it, those it passed. -/
structure Sink (L M : List Nm) (i j : Nat) : Prop where
  perm : M.Perm L
  cut : ∃ A B C x, M = A ++ x :: (B ++ C) ∧ A.length = j ∧ A.length + B.length = i ∧ Up (A ++ B) ∧ ∀ b ∈ B, kah (nk x) (nk b) = true
structure Sunk (L M : List Nm) (i : Nat) : Prop where
  perm : M.Perm L
  cut : ∃ A C, M = A ++ C ∧ A.length = i ∧ Up A
theorem Sunk.start (L : List Nm) (h : 1 ≤ L.length) : Sunk L L 1 := by
  refine ⟨List.Perm.refl _, ?_⟩
  match L, h with
  | x :: L, _ => exact ⟨[x], L, rfl, rfl, List.pairwise_singleton _ _⟩
theorem Sunk.zero (L : List Nm) : Sunk L L 0 := ⟨List.Perm.refl _, [], L, rfl, rfl, List.Pairwise.nil⟩
theorem Sunk.sink {L M : List Nm} {i : Nat} (h : Sunk L M i) (hi : i < M.length) : Sink L M i i := by
  obtain ⟨A, C, rfl, hA, hu⟩ := h.cut
  cases C with
  | nil => simp at hi; omega
  | cons x C => exact ⟨h.perm, A, [], C, x, by simp, hA, by simp [hA], by simpa using hu, fun b hb => by cases hb⟩
theorem Sink.swap {L M : List Nm} {i j : Nat} (h : Sink L M i (j + 1)) {x y : Nm} (hx : M[j + 1]? = some x) (hy : M[j]? = some y) (hl : kah (nk x) (nk y) = true) : Sink L ((M.set (j + 1) y).set j x) i j := by
  obtain ⟨A, B, C, z, rfl, hA, hi, hu, hB⟩ := h.cut
  have hz : z = x := by
    rw [List.getElem?_append_right (by omega), hA, Nat.sub_self] at hx
    exact Option.some.inj hx
  subst hz
  obtain ⟨A', y', rfl⟩ : ∃ A' y', A = A' ++ [y'] := by
    refine ⟨A.dropLast, A.getLast (by intro e; subst e; simp at hA), ?_⟩
    rw [List.dropLast_concat_getLast]
  have hA' : A'.length = j := by simpa using hA
  have hyy : y' = y := by
    rw [List.append_assoc, List.getElem?_append_right (by omega), hA', Nat.sub_self] at hy
    exact Option.some.inj hy
  subst hyy
  have e : (((A' ++ [y']) ++ z :: (B ++ C)).set (j + 1) y').set j z = A' ++ z :: ((y' :: B) ++ C) := by
    rw [List.set_append_right _ _ (by omega), hA, Nat.sub_self, List.set_cons_zero, List.append_assoc, List.set_append_right _ _ (by omega), hA', Nat.sub_self]
    rfl
  rw [e]
  refine ⟨?_, A', y' :: B, C, z, rfl, hA', by simp at hi ⊢; omega, by simpa using hu, fun b hb => ?_⟩
  · refine List.Perm.trans ?_ h.perm
    rw [List.append_assoc]
    refine List.Perm.append_left A' ?_
    exact List.Perm.swap _ _ _
  · rcases List.mem_cons.1 hb with rfl | hb
    · exact hl
    · exact hB b hb
theorem Sink.done {L M : List Nm} {i j : Nat} (h : Sink L M i j) (hs : j = 0 ∨ ∃ x y, M[j]? = some x ∧ M[j - 1]? = some y ∧ kah (nk x) (nk y) = false) : Sunk L M (i + 1) := by
  obtain ⟨A, B, C, z, rfl, hA, hi, hu, hB⟩ := h.cut
  refine ⟨h.perm, A ++ z :: B, C, by simp, by simp; omega, ?_⟩
  obtain ⟨h1, h2, h3⟩ := List.pairwise_append.1 hu
  have hz : ∀ a ∈ A, kah (nk z) (nk a) = false := by
    intro a ha
    rcases hs with h0 | ⟨x, y, hx, hy, hl⟩
    · subst h0
      rw [List.eq_nil_of_length_eq_zero hA] at ha
      cases ha
    · have hzx : z = x := by
        rw [List.getElem?_append_right (by omega), hA, Nat.sub_self] at hx
        exact Option.some.inj hx
      subst hzx
      have hpos : 0 < A.length := List.length_pos_of_mem ha
      obtain ⟨A', y', rfl⟩ : ∃ A' y', A = A' ++ [y'] := by
        refine ⟨A.dropLast, A.getLast (by intro e; subst e; simp at hpos), ?_⟩
        rw [List.dropLast_concat_getLast]
      have hA' : A'.length = j - 1 := by simp at hA; omega
      have hyy : y' = y := by
        rw [List.append_assoc, List.getElem?_append_right (by omega), hA', Nat.sub_self] at hy
        exact Option.some.inj hy
      subst hyy
      rcases List.mem_append.1 ha with h | h
      · exact knot_trans hl ((List.pairwise_append.1 h1).2.2 a h y' (by simp))
      · obtain rfl := List.mem_singleton.1 h
        exact hl
  refine List.pairwise_append.2 ⟨h1, List.pairwise_cons.2 ⟨fun b hb => kah_anti (hB b hb), h2⟩, fun a ha b hb => ?_⟩
  rcases List.mem_cons.1 hb with rfl | hb
  · exact hz a ha
  · exact h3 a ha b hb
theorem Sunk.all {L M : List Nm} (h : Sunk L M L.length) : srtD (L.map nk) = M.reverse.map nk := by
  obtain ⟨A, C, rfl, hA, hu⟩ := h.cut
  have hl := h.perm.length_eq
  rw [List.length_append] at hl
  have hC : C = [] := List.eq_nil_of_length_eq_zero (by omega)
  subst hC
  rw [List.append_nil] at *
  refine srtD_is (up_rev hu) ?_
  exact ((List.reverse_perm A).map nk).trans (h.perm.map nk)
end Nx
end Go.Proofs.YtgllkfolckbdhaaGreatDoor
