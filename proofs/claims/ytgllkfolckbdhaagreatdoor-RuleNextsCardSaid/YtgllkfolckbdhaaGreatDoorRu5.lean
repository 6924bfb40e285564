/-
  petrelref15.Verdict.
-/
import Derived.Test.YtgllkfolckbdhaaGreatDoorRu4
set_option linter.unusedVariables false
set_option linter.unusedSimpArgs false
namespace Go.Proofs.YtgllkfolckbdhaaGreatDoor
open Go.RowKit
namespace Ru
open Oct Ids Gn Hd
open Mem (M It blk ids rows)

theorem unk_nil {K : List Hh} {l : List (List UInt8)} (h : (unk K l).length = 0) {y : List UInt8} (hy : y ∈ l) : ∃ x, look K y = some x := by
  have h1 : unk K l = [] := List.eq_nil_of_length_eq_zero h
  cases hl : look K y with
  | some x => exact ⟨x, rfl⟩
  | none =>
    have : y ∈ unk K l := by unfold unk; rw [List.mem_filter]; exact ⟨hy, by rw [hl]; rfl⟩
    rw [h1] at this
    cases this
end Ru
end Go.Proofs.YtgllkfolckbdhaaGreatDoor
