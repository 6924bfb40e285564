/-
  The pen: Has, All, cut.
-/
import Derived.Test.YtgllkfolckbdhaaGreatDoorPn2
set_option linter.unusedVariables false
set_option linter.unusedSimpArgs false
namespace Go.Proofs.YtgllkfolckbdhaaGreatDoor
open Go.RowKit
namespace Pn
open Oct Ids Gn Hd
open Mem (M It blk ids rows)

end Pn
end Go.Proofs.YtgllkfolckbdhaaGreatDoor
