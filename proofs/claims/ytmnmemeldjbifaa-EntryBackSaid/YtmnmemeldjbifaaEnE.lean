/-
  '==' on entries.
-/
import Derived.Test.YtmnmemeldjbifaaEnA
import Derived.Test.YtmnmemeldjbifaaEnB
set_option linter.unusedVariables false
set_option linter.unusedSimpArgs false
namespace Go.Proofs.Ytmnmemeldjbifaa
open Go.RowKit
namespace En
open Oct Ids

theorem part_id (K : Int) (T B : ByteArray) (c : List UInt8) (hc : c.length = 32) (w : World) : (part 41 (ec K T B c).toArray 3).run Try.prog w = .ok (idv c) w := by
  have hd : (ec K T B c).drop 3 = c.map bv := rfl
  have hu := Try.underlying41
  have hsz := info32
  cases hq : Try.prog.info? 41 with
  | none => rw [hq] at hsz; cases hsz
  | some i =>
    have hs : i.size = 32 := by rw [hq] at hsz; simpa using hsz
    simp [part, isAgg, run_underlying hu, sizeOf, typeInfo, hq, hs]
    rw [hd, List.take_of_length_le (by simp [hc])]
/-- Two entries that are one. -/
def eqE (K : Int) (T B : ByteArray) (c : List UInt8) (K2 : Int) (T2 B2 : ByteArray) (c2 : List UInt8) : Bool := K == K2 && (T.toList == T2.toList && (B.toList == B2.toList && c == c2))
theorem eqE_self (K : Int) (T B : ByteArray) (c : List UInt8) : eqE K T B c K T B c = true := by simp [eqE]
theorem equalIn_e (w : World) (K K2 : Int) (T B T2 B2 : ByteArray) (c c2 : List UInt8) (hc : c.length = 32) (hc2 : c2.length = 32) :
    (Op.equalIn 10000 43 (.agg (ec K T B c).toArray) (.agg (ec K2 T2 B2 c2).toArray)).run Try.prog w = .ok (eqE K T B c K2 T2 B2 c2) w := by
  have hS : Try.prog.underlying 43 = some (.struct (Try.prog.fieldsOf 43)) := by kernel_rfl
  have hp : Try.prog.stoodInHeld 43 = false := by kernel_rfl
  have p1 := part_id K T B c hc
  have p2 := part_id K2 T2 B2 c2 hc2
  have q1 : ∀ w, (Op.equalIn 9999 41 (idv c) (idv c2)).run Try.prog w = .ok (c == c2) w := fun w => run_equalIn_bytes (P := Try.prog) w 9997 41 5 32 Try.underlying41 Try.underlying5 sz8 c c2 hc hc2
  have u3 := Try.underlying3
  have u9 := Try.underlying9
  have a3 : ∀ w, (isAgg 3).run Try.prog w = .ok false w := fun w => by simp [isAgg, run_underlying u3]
  have a9 : ∀ w, (isAgg 9).run Try.prog w = .ok false w := fun w => by simp [isAgg, run_underlying u9]
  have k0 : ∀ w, (part 3 (ec K T B c).toArray 0).run Try.prog w = .ok (.int .i64 K) w := fun w => by simp [part, a3, ec]
  have k1 : ∀ w, (part 9 (ec K T B c).toArray 1).run Try.prog w = .ok (.string T) w := fun w => by simp [part, a9, ec]
  have k2 : ∀ w, (part 9 (ec K T B c).toArray 2).run Try.prog w = .ok (.string B) w := fun w => by simp [part, a9, ec]
  have l0 : ∀ w, (part 3 (ec K2 T2 B2 c2).toArray 0).run Try.prog w = .ok (.int .i64 K2) w := fun w => by simp [part, a3, ec]
  have l1 : ∀ w, (part 9 (ec K2 T2 B2 c2).toArray 1).run Try.prog w = .ok (.string T2) w := fun w => by simp [part, a9, ec]
  have l2 : ∀ w, (part 9 (ec K2 T2 B2 c2).toArray 2).run Try.prog w = .ok (.string B2) w := fun w => by simp [part, a9, ec]
  rw [show (10000 : Nat) = 9999 + 1 from rfl, run_equalIn_agg w 9999 43 _ _ hS hp]
  have e0 : ∀ w, (Op.equalIn 9999 3 (.int .i64 K) (.int .i64 K2)).run Try.prog w = .ok (K == K2) w := fun w => run_equalIn_int w 9998 _ .i64 .i64 K K2 u3
  have e1 : ∀ w, (Op.equalIn 9999 9 (.string T) (.string T2)).run Try.prog w = .ok (T.toList == T2.toList) w := fun w => run_equalIn_string w 9998 _ T T2 u9
  have e2 : ∀ w, (Op.equalIn 9999 9 (.string B) (.string B2)).run Try.prog w = .ok (B.toList == B2.toList) w := fun w => run_equalIn_string w 9998 _ B B2 u9
  simp only [Program.fieldsOf, Try.underlying43]
  unfold eqE
  generalize (ec K T B c).toArray = X at *
  generalize (ec K2 T2 B2 c2).toArray = Y at *
  generalize (T.toList == T2.toList) = bt at *
  generalize (B.toList == B2.toList) = bb at *
  generalize (c == c2) = bc at *
  generalize (K == K2) = bk at *
  cases bk <;> cases bt <;> cases bb <;> cases bc <;> simp [Op.eqFields, k0, k1, k2, l0, l1, l2, p1, p2, q1, e0, e1, e2]
theorem neq_e (w : World) (K K2 : Int) (T B T2 B2 : ByteArray) (c c2 : List UInt8) (hc : c.length = 32) (hc2 : c2.length = 32) :
    Sem.run Try.prog (binOp .neq 43 (.agg (ec K T B c).toArray) (.agg (ec K2 T2 B2 c2).toArray)) w = .ok (.bool (!(eqE K T B c K2 T2 B2 c2))) w := by
  rw [run_neq_struct, equalIn_e w K K2 T B T2 B2 c c2 hc hc2]
  rfl
theorem eql_e (w : World) (K K2 : Int) (T B T2 B2 : ByteArray) (c c2 : List UInt8) (hc : c.length = 32) (hc2 : c2.length = 32) :
    Sem.run Try.prog (binOp .eql 43 (.agg (ec K T B c).toArray) (.agg (ec K2 T2 B2 c2).toArray)) w = .ok (.bool (eqE K T B c K2 T2 B2 c2)) w := by
  rw [run_eql_struct, equalIn_e w K K2 T B T2 B2 c c2 hc hc2]
  rfl
theorem guard_e (op : BinOp) (a b : Operand) (xs ys : Array Value) (w : World) : Sem.run Try.prog (eqGuard op 43 a b (.agg xs) (.agg ys)) w = .ok () w :=
  run_eqGuard_agg w op 43 a b xs ys (by kernel_rfl)
end En
end Go.Proofs.Ytmnmemeldjbifaa
