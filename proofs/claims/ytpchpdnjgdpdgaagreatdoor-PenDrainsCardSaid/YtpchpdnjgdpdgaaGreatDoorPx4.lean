/-
  The document's pen: take.
-/
import Derived.Test.YtpchpdnjgdpdgaaGreatDoorPx2
import Derived.Test.YtpchpdnjgdpdgaaGreatDoorGRf
set_option linter.unusedVariables false
set_option linter.unusedSimpArgs false
namespace Go.Proofs.YtpchpdnjgdpdgaaGreatDoor
open Go.RowKit
namespace Px
open Oct Ids Gn Hd Pn
open Mem (M It blk ids rows)
/-- Are all parents known? -/
def rdx (kl : List (List UInt8)) (x : Wt) : Bool := (IdL.lessL x.l kl).length == 0
end Px
end Go.Proofs.YtpchpdnjgdpdgaaGreatDoor
