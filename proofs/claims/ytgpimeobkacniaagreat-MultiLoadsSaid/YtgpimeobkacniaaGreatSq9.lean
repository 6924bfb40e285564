/-
  seq: one that nobody made.
-/
import Derived.Test.YtgpimeobkacniaaGreatSq8
set_option linter.unusedVariables false
set_option linter.unusedSimpArgs false
namespace Go.Proofs.YtgpimeobkacniaaGreat
open Go.RowKit
namespace Sq
open Oct Ids Mp
open Mem (M It blk ids rows)
theorem rowsB_len {B : Bhs} {m : Nat} (h : ∀ p ∈ B, p.2.2.length ≤ m) (r : List UInt8) : (rowsB B r).length ≤ m := by
  unfold rowsB rowB
  cases he : fget B r with
  | none => exact Nat.zero_le _
  | some p => exact h (r, p) (fget_mem he)
end Sq
end Go.Proofs.YtgpimeobkacniaaGreat
