/-
  The pen: Take.
-/
import Derived.Test.YtgllkfolckbdhaaGreatDoorPn7
set_option linter.unusedVariables false
set_option linter.unusedSimpArgs false
namespace Go.Proofs.YtgllkfolckbdhaaGreatDoor
open Go.RowKit
namespace Pn
open Oct Ids Gn Hd
open Mem (M It blk ids rows)

/-- Are all parents there? -/
def rdy (kl : List (List UInt8)) (x : Wt) : Bool := x.l.all (fun y => decide (y ∈ IdL.setL kl))
end Pn
end Go.Proofs.YtgllkfolckbdhaaGreatDoor
