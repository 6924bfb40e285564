/-
  The document's pen: wants; both are one set.
-/
import Derived.Test.YtpchpdnjgdpdgaaGreatDoorPx4
import Derived.Test.YtpchpdnjgdpdgaaGreatDoorPnW
import Derived.Test.YtpchpdnjgdpdgaaGreatDoorGRf
set_option linter.unusedVariables false
set_option linter.unusedSimpArgs false
namespace Go.Proofs.YtpchpdnjgdpdgaaGreatDoor
open Go.RowKit
namespace Px
open Oct Ids Gn Hd Pn
open Mem (M It blk ids rows)
/-- What is wanted. -/
def wn (kl I : List (List UInt8)) (L : List Wt) : List (List UInt8) := L.foldl (fun out x => IdL.setL (out ++ IdL.lessL (IdL.lessL x.l kl) I)) []
theorem wn_snoc (kl I : List (List UInt8)) (L : List Wt) (x : Wt) : wn kl I (L ++ [x]) = IdL.setL (wn kl I L ++ IdL.lessL (IdL.lessL x.l kl) I) := by unfold wn; rw [List.foldl_append]; rfl
theorem wn_len (kl I : List (List UInt8)) (L : List Wt) (h : ∀ x ∈ L, x.l.length ≤ 100) : (wn kl I L).length ≤ 100 * L.length := by
  have : ∀ n, n ≤ L.length → (wn kl I (L.take n)).length ≤ 100 * n := by
    intro n
    induction n with
    | zero => intro _; simp [wn]
    | succ n ih =>
      intro hn
      have hx : L[n]? = some L[n] := List.getElem?_eq_getElem (by omega)
      rw [List.take_add_one, hx]
      show (wn kl I (L.take n ++ [L[n]])).length ≤ _
      rw [wn_snoc]
      have h1 := IdL.setL_len (wn kl I (L.take n) ++ IdL.lessL (IdL.lessL (L[n]).l kl) I)
      rw [List.length_append] at h1
      have h2 := less_le (IdL.lessL (L[n]).l kl) I
      have h3 := less_le (L[n]).l kl
      have h4 := h _ (List.getElem_mem (by omega : n < L.length))
      have := ih (by omega)
      omega
  have h1 := this L.length (Nat.le_refl _)
  rwa [List.take_length] at h1
theorem wn_is (kl I : List (List UInt8)) (L : List Wt) : wn kl I L = IdL.lessL (IdL.lessL (L.flatMap fun x : Wt => x.l) kl) I := by
  have hm : ∀ (n : Nat), n ≤ L.length → ∀ y, y ∈ wn kl I (L.take n) ↔ ∃ x ∈ L.take n, y ∈ x.l ∧ y ∉ kl ∧ y ∉ I := by
    intro n
    induction n with
    | zero => intro _ y; simp [wn]
    | succ n ih =>
      intro hn y
      have hx : L[n]? = some L[n] := List.getElem?_eq_getElem (by omega)
      rw [List.take_add_one, hx]
      show y ∈ wn kl I (L.take n ++ [L[n]]) ↔ ∃ x ∈ L.take n ++ [L[n]], _
      rw [wn_snoc, IdL.mem_setL, List.mem_append, ih (by omega) y, IdL.mem_lessL, IdL.mem_lessL]
      constructor
      · rintro (⟨x, hx, h⟩ | ⟨⟨h1, h2⟩, h3⟩)
        · exact ⟨x, List.mem_append_left _ hx, h⟩
        · exact ⟨L[n], List.mem_append_right _ List.mem_cons_self, h1, h2, h3⟩
      · rintro ⟨x, hx, h1, h2, h3⟩
        rcases List.mem_append.1 hx with hx | hx
        · exact .inl ⟨x, hx, h1, h2, h3⟩
        · rw [List.mem_singleton] at hx
          subst hx
          exact .inr ⟨⟨h1, h2⟩, h3⟩
  have hs : IdL.Srt (wn kl I L) := by
    cases hL : L.reverse with
    | nil =>
      have : L = [] := by simpa using hL
      subst this
      exact List.Pairwise.nil
    | cons x r =>
      have : L = r.reverse ++ [x] := by rw [← List.reverse_reverse L, hL]; simp
      rw [this, wn_snoc]
      exact IdL.setL_srt _
  refine IdL.srt_unique _ _ hs (by unfold IdL.lessL; exact (IdL.setL_srt _).filter _) (fun y => ?_)
  have h1 := hm L.length (Nat.le_refl _) y
  rw [List.take_length] at h1
  rw [h1, IdL.mem_lessL, IdL.mem_lessL, List.mem_flatMap]
  constructor
  · rintro ⟨x, hx, h1, h2, h3⟩
    exact ⟨⟨⟨x, hx, h1⟩, h2⟩, h3⟩
  · rintro ⟨⟨⟨x, hx, h1⟩, h2⟩, h3⟩
    exact ⟨x, hx, h1, h2, h3⟩
end Px
end Go.Proofs.YtpchpdnjgdpdgaaGreatDoor
