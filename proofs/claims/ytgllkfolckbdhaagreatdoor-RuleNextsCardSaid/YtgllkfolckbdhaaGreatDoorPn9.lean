/-
  The door 'awake' of petrellaw18.
-/
import Derived.Test.YtgllkfolckbdhaaGreatDoorPn8
set_option linter.unusedVariables false
set_option linter.unusedSimpArgs false
namespace Go.Proofs.YtgllkfolckbdhaaGreatDoor
open Go.RowKit
namespace Pn
open Oct Ids Gn Hd
open Mem (M It blk ids rows)

end Pn
end Go.Proofs.YtgllkfolckbdhaaGreatDoor
