/-
  fetch: Round.
-/
import Derived.Test.YtgllkfolckbdhaaFe9
set_option linter.unusedVariables false
set_option linter.unusedSimpArgs false
namespace Go.Proofs.Ytgllkfolckbdhaa
open Go.RowKit
namespace Fe
open Oct Ids Mp
open Mem (M It blk ids rows)
/-- What a round holds on the way. -/
structure RS where
  S : List Int
  H : List Wd
  left : List Fd
  asked : List Fd
def rnd1 (sf now : Int) (r : RS) (x : Fd) : RS :=
  if x.d ≤ now then
    if (askR r.S sf x).2 then ⟨askS r.S sf x, r.H, r.left ++ [askX r.S sf x now], r.asked ++ [toldX r.H (askX r.S sf x now)]⟩
    else ⟨askS r.S sf x, IdL.setL (r.H ++ [x.u]), r.left, r.asked⟩
  else ⟨r.S, r.H, r.left ++ [x], r.asked⟩
theorem rnd1_not {sf now : Int} {r : RS} {x : Fd} (h : ¬ x.d ≤ now) : rnd1 sf now r x = ⟨r.S, r.H, r.left ++ [x], r.asked⟩ := if_neg h
theorem rnd1_ok {sf now : Int} {r : RS} {x : Fd} (h : x.d ≤ now) (h2 : (askR r.S sf x).2 = true) : rnd1 sf now r x = ⟨askS r.S sf x, r.H, r.left ++ [askX r.S sf x now], r.asked ++ [toldX r.H (askX r.S sf x now)]⟩ := by
  unfold rnd1; rw [if_pos h, if_pos h2]
theorem rnd1_no {sf now : Int} {r : RS} {x : Fd} (h : x.d ≤ now) (h2 : (askR r.S sf x).2 = false) : rnd1 sf now r x = ⟨askS r.S sf x, IdL.setL (r.H ++ [x.u]), r.left, r.asked⟩ := by
  unfold rnd1; rw [if_pos h, if_neg (by rw [h2]; decide)]
def L2of (ms : List Wd) (now : Int) (L : List Fd) (at_ : Nat) : List Fd × Nat := fillF ms now ms.length 8 (L.filter (inL ms)) at_
def roundR (sf now : Int) (ms : List Wd) (S : List Int) (H : List Wd) (L : List Fd) (at_ : Nat) : RS := (L2of ms now L at_).1.foldl (rnd1 sf now) ⟨S, H.filter (inH ms), [], []⟩
theorem askS_ok {S : List Int} {sf : Int} (h : SOk S sf) (x : Fd) : SOk (askS S sf x) sf := by
  unfold askS
  split
  · exact h
  · exact h.turn _ _
theorem newF_ok (u : Wd) (hu : u.length = 32) (now : Int) : XOk (newF u hu now) := ⟨.inl rfl, by unfold newF; simp⟩
theorem fillF_ok {ms : List Wd} {now : Int} {n : Nat} : ∀ (k : Nat) (L : List Fd) (a : Nat), (∀ x ∈ L, XOk x) → ∀ x ∈ (fillF ms now n k L a).1, XOk x
  | 0, L, a, h => h
  | k + 1, L, a, h => by
    unfold fillF
    split
    · split
      · exact h
      · split
        · refine fillF_ok k _ _ (fun x hx => ?_)
          rcases List.mem_append.1 hx with hx | hx
          · exact h x hx
          · rw [List.mem_singleton.1 hx]; exact newF_ok _ _ _
        · exact h
    · exact h
theorem fillF_at {ms : List Wd} {now : Int} {n m : Nat} (hn : n ≤ m) : ∀ (k : Nat) (L : List Fd) (a : Nat), a ≤ m → ms.length = n → (fillF ms now n k L a).2 ≤ m
  | 0, L, a, h, _ => h
  | k + 1, L, a, h, hl => by
    unfold fillF
    split
    · split
      · exact h
      · split
        · rename_i j hj hu
          refine fillF_at hn k _ _ ?_ hl
          rcases Nat.eq_zero_or_pos n with h0 | h0
          · exfalso
            have e : ms = [] := List.eq_nil_of_length_eq_zero (by omega)
            subst e
            simp at hu
          · exact Nat.le_trans (Nat.le_of_lt (Nat.mod_lt _ h0)) hn
        · exact h
    · exact h
theorem setL_one (H : List Wd) (u : Wd) : (IdL.setL (H ++ [u])).length ≤ H.length + 1 := by
  have := IdL.setL_len (H ++ [u])
  rw [List.length_append, List.length_singleton] at this
  exact this
theorem rnd1_H (sf now : Int) (r : RS) (x : Fd) : (rnd1 sf now r x).H.length ≤ r.H.length + 1 := by
  unfold rnd1
  split
  · split
    · exact Nat.le_succ _
    · exact setL_one _ _
  · exact Nat.le_succ _
theorem rnd1_S {sf now : Int} {r : RS} (h : SOk r.S sf) (x : Fd) : SOk (rnd1 sf now r x).S sf := by
  unfold rnd1
  split
  · split <;> exact askS_ok h x
  · exact h
theorem rnd1_len (sf now : Int) (r : RS) (x : Fd) : (rnd1 sf now r x).left.length ≤ r.left.length + 1 ∧ (rnd1 sf now r x).asked.length ≤ r.asked.length + 1 := by
  unfold rnd1
  split
  · split
    · exact ⟨by simp, by simp⟩
    · exact ⟨Nat.le_succ _, Nat.le_succ _⟩
  · exact ⟨by simp, Nat.le_succ _⟩
structure RIn (sf : Int) (r : RS) (k h0 : Nat) : Prop where
  S : SOk r.S sf
  H : r.H.length ≤ h0 + k
  l : r.left.length ≤ k
  a : r.asked.length ≤ k
theorem RIn.step {sf now : Int} {r : RS} {k h0 : Nat} (h : RIn sf r k h0) (x : Fd) : RIn sf (rnd1 sf now r x) (k + 1) h0 := by
  have h1 := rnd1_H sf now r x
  have h2 := rnd1_len sf now r x
  have := h.H
  have := h.l
  have := h.a
  exact ⟨rnd1_S h.S x, by omega, by omega, by omega⟩
end Fe
end Go.Proofs.Ytgllkfolckbdhaa
