/-
  Plain law: nodes and ids as bytes, and out of bytes.
-/
import Derived.Test.YtgpimeobkacniaaGreatSqW
import Derived.Test.YtgpimeobkacniaaGreatSeg
set_option linter.unusedVariables false
set_option linter.unusedSimpArgs false
namespace Go.Proofs.YtgpimeobkacniaaGreat
open Go.RowKit
namespace Sq
open Oct Ids Seg
open OctRd (be_len)
def fit (l : Wd) : Wd := if l.length = 32 then l else Zi
theorem fit_len (l : Wd) : (fit l).length = 32 := by
  unfold fit
  split
  · assumption
  · rfl
theorem fit_eq {l : Wd} (h : l.length = 32) : fit l = l := if_pos h
theorem pad_of {l : List UInt8} (h : l.length = 32) : pad l = l := by
  unfold pad
  simp [h]
end Sq
end Go.Proofs.YtgpimeobkacniaaGreat
