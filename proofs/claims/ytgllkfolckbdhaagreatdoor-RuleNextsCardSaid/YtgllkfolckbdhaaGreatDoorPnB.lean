/-
  slices.BinarySearchFunc at pen.ids. (Printed by wip/gen/pnb.py.)
-/
import Derived.Test.YtgllkfolckbdhaaGreatDoorPn6
import Derived.Test.YtgllkfolckbdhaaGreatDoorGIf
set_option linter.unusedVariables false
set_option linter.unusedSimpArgs false
namespace Go.Proofs.YtgllkfolckbdhaaGreatDoor
open Go.RowKit
namespace Pn
open Oct Ids
end Pn
end Go.Proofs.YtgllkfolckbdhaaGreatDoor
