/-
  header.Ahead and petrelref08.Ahead.
-/
import Derived.Test.YtgpimeobkacniaaGreatGRf
import Derived.Test.YtgpimeobkacniaaGreatSq2
set_option linter.unusedVariables false
set_option linter.unusedSimpArgs false
namespace Go.Proofs.YtgpimeobkacniaaGreat
open Go.RowKit
namespace Sq
open Oct Ids
open Mem (M blk)
section
variable {ops : Array Oper} {rest : List Oper} {op : Oper} {a : Act} {w : World} {Q : Exit → Act → World → Prop}
/-- 'load an id', guarded or not. -/
theorem wl_loadG (hw : Region.wanted op (yielded ops a.tmps) = true) {x : Operand} (ho : op.op = .load 38 x) {b o : Nat} (hx : a.eval x = .pointer (some ⟨b, o, none⟩)) {l : List UInt8} (hl : l.length = 32) (hr : w.rangeAt b o (l.map bv))
    (h : wpList Tryz.prog ops Q rest (a.put op.dst (idv l)) w) : wpList Tryz.prog ops Q (op :: rest) a w :=
  wpList_step fun K hK => by
    rw [if_pos hw]
    exact wp_load_mid _ x ho b o hx (l.map bv) _ hr Tryz.underlying38 rfl (by rw [info32, List.length_map, hl]) (hK _ _ h)
end
/-- Does the first one stand ahead? -/
def ah (x : Int) (a : List UInt8) (y : Int) (b : List UInt8) : Bool := decide (x < y) || (x == y && decide (IdL.cmpL a b < 0))
end Sq
end Go.Proofs.YtgpimeobkacniaaGreat
