/-
  The calls of chapter 25, as they came in.
-/
import Derived.Test.YtgpimeobkacniaaGreatSqX
import Derived.Test.YtgpimeobkacniaaGreatGOp
set_option linter.unusedVariables false
set_option linter.unusedSimpArgs false
namespace Go.Proofs.YtgpimeobkacniaaGreat
open Go.RowKit
namespace Sq
open Oct Ids
open Go.ChangeShapes Go.WideShapes Go.ChangeAt
/-- A node, as it came in; a call. -/
abbrev NQ := List UInt8 × Int × List UInt8 × ByteArray × Unit
abbrev AQ := Int × NQ × Unit
def layN (x : NQ) : List Value := x.1.map bv ++ (.int .i64 x.2.1 :: (x.2.2.1.map bv ++ [.string x.2.2.2.1]))
def factN (x : NQ) : Prop := x.1.length = 32 ∧ x.2.2.1.length = 32 ∧ x.2.2.2.1.size ≤ maxLen
instance (x : NQ) : Decidable (factN x) := by unfold factN; infer_instance
def layQ (x : AQ) : List Value := .int .i64 x.1 :: layN x.2.1
theorem layN_len (x : NQ) (h : factN x) : (layN x).length = 66 := by
  unfold layN
  simp [h.1, h.2.1]
theorem layQ_len (x : AQ) (h : factN x.2.1) : (layQ x).length = 67 := by
  unfold layQ
  rw [List.length_cons, layN_len _ h]
abbrev qz : Array Value := (Value.int .i64 0 :: ((List.replicate 32 (0 : UInt8)).map bv ++ (Value.int .i64 0 :: ((List.replicate 32 (0 : UInt8)).map bv ++ [Value.string ByteArray.empty])))).toArray
end Sq
end Go.Proofs.YtgpimeobkacniaaGreat
