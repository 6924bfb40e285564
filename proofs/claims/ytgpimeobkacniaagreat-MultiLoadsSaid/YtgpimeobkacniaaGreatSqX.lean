/-
  The document's list in memory.
-/
import Derived.Test.YtgpimeobkacniaaGreatSqV
import Derived.Test.YtgpimeobkacniaaGreatRows4
set_option linter.unusedVariables false
set_option linter.unusedSimpArgs false
namespace Go.Proofs.YtgpimeobkacniaaGreat
open Go.RowKit
namespace Sq
open Oct Ids Mp
open Mem (M It blk ids rows)
abbrev dz : Array Value := ((List.replicate 32 (0 : UInt8)).map bv ++ (Value.int .i64 0 :: ((List.replicate 32 (0 : UInt8)).map bv ++ [Value.string ByteArray.empty]))).toArray
def xsfoot (b : Nat) (lv gv : Value) (k : Nat) : Prop := k = b ∨ lv.ownBlock = some k ∨ gv.ownBlock = some k
end Sq
end Go.Proofs.YtgpimeobkacniaaGreat
