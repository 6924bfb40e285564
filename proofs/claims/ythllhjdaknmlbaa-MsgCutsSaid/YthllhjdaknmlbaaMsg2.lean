/-
  petrelref09's Check.
-/
import Derived.Test.YthllhjdaknmlbaaMsg1
import Derived.Lib.Strings
set_option linter.unusedVariables false
set_option linter.unusedSimpArgs false
namespace Go.Proofs.Ythllhjdaknmlbaa
open Go.RowKit
namespace Ms
open Oct

theorem empty_of {B : ByteArray} (h : B.size = 0) : B = ByteArray.empty := by
  apply ByteArray.ext
  exact Array.eq_empty_of_size_eq_zero h
theorem list_ne {B : ByteArray} (h : B.size ≠ 0) : ¬ B.toList = [] := by
  rw [Lib.toList_data]
  intro e
  exact h (by show B.data.size = 0; rw [← Array.length_toList, e]; rfl)
theorem list_ne2 {B : ByteArray} (h : B.size ≠ 0) : B.toList.isEmpty = false := by
  have := list_ne h
  cases hb : B.toList with
  | nil => exact absurd hb this
  | cons _ _ => rfl
theorem knd_1 {K : Int} (h : knd K = 1) : (K == 3) = false ∧ (K == 8) = false := by
  unfold knd at h
  rw [beq_eq_false_iff_ne, beq_eq_false_iff_ne]
  split at h <;> omega
theorem knd_2 {K : Int} (h : knd K = 2) : K = 3 ∨ K = 8 := by
  unfold knd at h
  split at h
  · assumption
  · split at h <;> omega
end Ms
end Go.Proofs.Ythllhjdaknmlbaa
