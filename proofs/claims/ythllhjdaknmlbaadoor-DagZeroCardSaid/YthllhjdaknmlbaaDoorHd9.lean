/-
  header.Same, petrelref08.Same.
-/
import Derived.Test.YthllhjdaknmlbaaDoorHd3
import Derived.Test.YthllhjdaknmlbaaDoorGTx
import Derived.Test.YthllhjdaknmlbaaDoorGOp
set_option linter.unusedVariables false
set_option linter.unusedSimpArgs false
namespace Go.Proofs.YthllhjdaknmlbaaDoor
open Go.RowKit
namespace Hd
open Oct Ids Gn
open Mem (M blk)

/-- Are two headers the same? -/
def smh (l : List (List UInt8)) (G : Int) (T : ByteArray) (A Q Z : Int) (m : List UInt8) (l2 : List (List UInt8)) (G2 : Int) (T2 : ByteArray) (B2 Q2 Z2 : Int) (m2 : List UInt8) : Bool := (G == G2 && (T.toList == T2.toList && (A == B2 && (Q == Q2 && (Z == Z2 && (m == m2 && decide (l = l2)))))))
end Hd
end Go.Proofs.YthllhjdaknmlbaaDoor
