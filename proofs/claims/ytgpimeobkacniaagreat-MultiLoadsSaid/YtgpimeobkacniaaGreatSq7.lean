/-
  seq.Order.
-/
import Derived.Test.YtgpimeobkacniaaGreatSq6
import Derived.Great.BuildSlice
set_option linter.unusedVariables false
set_option linter.unusedSimpArgs false
namespace Go.Proofs.YtgpimeobkacniaaGreat
open Go.RowKit
namespace Sq
open Oct Ids Mp
open Mem (M It blk ids rows)
section
variable {ops : Array Oper} {rest : List Oper} {o : Oper} {a : Act} {w : World} {Q : Exit → Act → World → Prop}
/-- A value of one cell stored into a block of one. -/
theorem wl_storeO {T t : TypeId} (hgd : o.guard = none) {x y : Operand} (ho : o.op = .store T x y) (hd : o.dst = none) {g : Nat} (hx : a.eval x = .pointer (some ⟨g, 0, none⟩)) {v : Value} (hy : a.eval y = v) (hv : v.oneCell' = true) {old : Value} (hg : w.heap[g]? = some (.cells #[old] t (0, 0))) (hi : (Tryz.prog.info? T).map (·.size) = some 1)
    (h : wpList Tryz.prog ops Q rest a (w.setRow g #[v])) : wpList Tryz.prog ops Q (o :: rest) a w := by
  subst hy
  refine wpList_store_one hgd T x y ho g hx hv t old hg hi ?_
  rw [hd]
  exact h
end
end Sq
end Go.Proofs.YtgpimeobkacniaaGreat
