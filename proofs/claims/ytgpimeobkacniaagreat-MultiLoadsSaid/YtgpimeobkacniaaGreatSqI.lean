/-
  Plain law: what both sides read; why it is none; put and read.
-/
import Derived.Test.YtgpimeobkacniaaGreatSqB
set_option linter.unusedVariables false
set_option linter.unusedSimpArgs false
namespace Go.Proofs.YtgpimeobkacniaaGreat
open Go.RowKit
namespace Sq
open Oct Ids Seg
open OctRd (be_len)
open Ref (endv)
/-- Where a reading, one by one, ends. -/
structure Til {α : Type} (f : Nat → List α × Nat × Int) (n k : Nat) : Prop where
  le : k ≤ n
  good : ∀ j, j < k → (f j).2.2 = 0
  stop : k = n ∨ (f k).2.2 ≠ 0
theorem Til.uniq {α : Type} {f : Nat → List α × Nat × Int} {n k k' : Nat} (h : Til f n k) (h' : Til f n k') : k = k' := by
  rcases Nat.lt_trichotomy k k' with hlt | he | hlt
  · rcases h.stop with e | e
    · have := h'.le; omega
    · exact absurd (h'.good k hlt) e
  · exact he
  · rcases h'.stop with e | e
    · have := h.le; omega
    · exact absurd (h.good k' hlt) e
theorem flat32 : ∀ l : List Wd, (∀ x ∈ l, x.length = 32) → l.flatten.length = 32 * l.length
  | [], _ => rfl
  | x :: l, h => by
    have h1 := flat32 l (fun y hy => h y (List.mem_cons_of_mem _ hy))
    have h2 := h x List.mem_cons_self
    rw [List.flatten_cons, List.length_append, List.length_cons, h1, h2]
    omega
theorem ids_bound {s : ByteArray} {a : Nat} {b : Int} {k : Nat} (ha : a ≤ s.size) (hg : ∀ j, j ≤ k → (rdIds s a b j).2.2 = 0) : 32 * k ≤ s.size := by
  have hb : b = 0 := hg 0 (Nat.zero_le _)
  subst hb
  have h1 := (ids_ok s a ha k (hg k (Nat.le_refl _))).1
  have h2 := congrArg List.length h1
  rw [dr_len, List.length_append, flat32 _ (ids_each s a 0 k), rdIds_len] at h2
  omega
theorem dr_zero (s : ByteArray) : dr s 0 = s.data.toList := by unfold dr; rfl
end Sq
end Go.Proofs.YtgpimeobkacniaaGreat
