/-
  petrelref07.Check: each kind ().
-/
import Derived.Test.YtfoplimdbapdfaaDoorOx8
import Derived.Test.YtfoplimdbapdfaaDoorOxF
import Derived.Test.YtfoplimdbapdfaaDoorOx9
import Derived.Test.YtfoplimdbapdfaaDoorOxA
set_option linter.unusedVariables false
set_option linter.unusedSimpArgs false
namespace Go.Proofs.YtfoplimdbapdfaaDoor
open Go.RowKit
namespace Ox
open Oct Ids

theorem rcheck_any (w : World) (K N : Int) (Y V : ByteArray) (r : List UInt8) (a : Option Addr) (n c : Nat) (l : List (List UInt8)) (hr : r.length = 32) (h : At w a n l) (v : Int) (hv : ck K N Y V r n l = v) :
    Calls Tryd.prog 18 #[.agg (oc K N Y V r (.slice a n c)).toArray] w fun e w' => e = .returned (.int .i64 v) ∧ Keep (fun _ => False) w w' := by
  subst hv
  rcases (by omega : (K < 1 ∨ 7 < K) ∨ K = 1 ∨ K = 2 ∨ K = 3 ∨ K = 4 ∨ K = 5 ∨ K = 6 ∨ K = 7) with hK | rfl | rfl | rfl | rfl | rfl | rfl | rfl
  · rw [show ck K N Y V r n l = 10 from if_pos hK]
    exact rcheck_none w K N Y V r a n c hr hK
  · exact rcheck_1 w N Y V r a n c l hr h
  · exact rcheck_2 w N Y V r a n c l hr h
  · exact rcheck_3 w N Y V r a n c l hr h
  · exact rcheck_4 w N Y V r a n c l hr h
  · exact rcheck_5 w N Y V r a n c l hr h
  · exact rcheck_6 w N Y V r a n c l hr h
  · exact rcheck_7 w N Y V r a n c l hr h
end Ox
end Go.Proofs.YtfoplimdbapdfaaDoor
