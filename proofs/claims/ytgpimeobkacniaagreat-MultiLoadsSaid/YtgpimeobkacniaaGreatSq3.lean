/-
  seq.hang: a node among those behind its ref.
-/
import Derived.Test.YtgpimeobkacniaaGreatAhd
import Derived.Test.YtgpimeobkacniaaGreatGIf
set_option linter.unusedVariables false
set_option linter.unusedSimpArgs false
namespace Go.Proofs.YtgpimeobkacniaaGreat
open Go.RowKit
namespace Sq
open Oct Ids Mp
open Mem (M It blk ids rows)
end Sq
end Go.Proofs.YtgpimeobkacniaaGreat
