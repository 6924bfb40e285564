/-
  A call, as a step of a region in the text's order, without reckoning what is left.
-/
import Derived.Test.YtmnmemeldjbifaaText2
set_option linter.unusedVariables false
set_option linter.unusedSimpArgs false
namespace Go.Proofs.Ytmnmemeldjbifaa
open Go.RowKit
namespace Txt
section
variable {P : Program} {ops : Array Oper} {S : World → Prop} {Q : Act → World → Prop} {o : Oper} {rest : List Oper} {ts : List Nat} {a : Act} {w : World}
theorem run_call {f : Nat} {args : Array Operand} {ats : Array TypeId} {fn : Func} (hf : P.funcs[f]? = some fn) (hname : (fn.name == "runtime.NumGoroutine") = false) (hb : fn.body.isNone = false) (ho : o.op = .call { callee := .value (.func f), args := args, argTypes := ats }) : (execOp a.eval o).run P w = .ok (.enter f (args.map a.eval)) w := by
  unfold execOp
  simp only [ho]
  have h1 : fn.name ≠ "runtime.NumGoroutine" := by simpa using hname
  have h2 : ¬ fn.body = none := fun e => by rw [e] at hb; cases hb
  simp [go_sem, callFunc, run_program, hf, h1, h2]
theorem tl_call {f : Nat} {args : Array Operand} {ats : Array TypeId} {vs : Array Value} {R : Ending → World → Prop} {fn : Func} (hf : P.funcs[f]? = some fn) (hname : (fn.name == "runtime.NumGoroutine") = false) (hb : fn.body.isNone = false) (hw : Region.wanted o (yielded ops a.tmps) = true) (ho : o.op = .call { callee := .value (.func f), args := args, argTypes := ats })
    (hv : args.toList.map a.eval = vs.toList) (h : Calls P f vs w R) (hR : ∀ e w', R e w' → ∃ v, e = .returned v ∧ S w' ∧ wpTG P ops S Q rest ts (a.put o.dst v) w') : wpTG P ops S Q (o :: rest) (4 :: ts) a w := by
  refine tl_loud hw ?_
  unfold Oper.wp
  have hv' : args.map a.eval = vs := by apply Array.toList_inj.1; rw [Array.toList_map, hv]
  rw [run_call hf hname hb ho, hv', Oper.upon_enter]
  refine h.mono fun e w' he => ?_
  obtain ⟨v, rfl, h1, h2⟩ := hR e w' he
  exact ⟨h1, h2⟩
end
end Txt
end Go.Proofs.Ytmnmemeldjbifaa
