/-
  seq.Order: the closure that calls itself.
-/
import Derived.Test.YtgpimeobkacniaaGreatSq5
import Derived.Test.YtgpimeobkacniaaGreatGTx
set_option linter.unusedVariables false
set_option linter.unusedSimpArgs false
namespace Go.Proofs.YtgpimeobkacniaaGreat
open Go.RowKit
namespace Sq
open Oct Ids Mp
open Mem (M It blk ids rows)
section
variable {ops : Array Oper} {rest : List Oper} {o : Oper} {a : Act} {w : World} {Q : Exit → Act → World → Prop}
/-- A call of a function value. -/
theorem wl_callv {P : Program} (hgd : o.guard = none) {x : Operand} {g : Nat} {bs ls : Array Value} {args : Array Operand} {ats : Array TypeId} {vs : Array Value} {R : Ending → World → Prop} (ho : o.op = .call { callee := .value x, args := args, argTypes := ats }) (hx : a.eval x = .func (.func g) bs ls) (eg : ∀ args w, (callFunc g args).run P w = .ok (.enter g args) w)
    (hv : args.toList.map a.eval = vs.toList) (h : Calls P g (bs ++ vs ++ ls) w R) (hR : ∀ e w', R e w' → ∃ v, e = .returned v ∧ wpList P ops Q rest (a.put o.dst v) w') : wpList P ops Q (o :: rest) a w :=
  wpList_plain hgd fun K hK => by
    unfold Oper.wp
    have hv' : args.map a.eval = vs := by apply Array.toList_inj.1; rw [Array.toList_map, hv]
    rw [Txt.run_callv ho hx eg, hv', Oper.upon_enter]
    refine h.mono fun e w' he => ?_
    obtain ⟨v, rfl, h2⟩ := hR e w' he
    exact hK _ _ h2
theorem run_storeS {w : World} {p : Addr} {ad : Option Addr} {n c : Nat} {old : Value} (hc : w.cell? p = some old) (hf : w.frozen? p = false) : (Instr.storeAt 41 (.pointer (some p)) (.slice ad n c)).run Tryz.prog w = .ok () (w.setCell p (.slice ad n c)) := by
  go_simp
/-- A row's header stored. -/
theorem wl_storeS (hgd : o.guard = none) {x y : Operand} (ho : o.op = .store 41 x y) (hd : o.dst = none) {p : Addr} (hx : a.eval x = .pointer (some p)) {ad : Option Addr} {n c : Nat} (hy : a.eval y = .slice ad n c) {old : Value} (hc : w.cell? p = some old) (hf : w.frozen? p = false)
    (h : wpList Tryz.prog ops Q rest a (w.setCell p (.slice ad n c))) : wpList Tryz.prog ops Q (o :: rest) a w :=
  wpList_plain hgd fun K hK => by
    unfold Oper.wp execOp
    simp only [ho, hx, hy, Sem.run_bind, run_storeS hc hf, Result.andThen_ok, Sem.run_pure]
    rw [Oper.upon_skip, hd]
    exact hK _ _ h
end
theorem tyI : St.Ty 38 32 z32 := ⟨⟨_, Tryz.underlying38, rfl⟩, by kernel_rfl, rfl⟩
theorem at_callv {P : Program} {ops : Array Oper} {Q : Exit → Act → World → Prop} {d : Option Tmp} {ty : TypeId} {p : String} {k : Nat} {args : Array Operand} {ats : Array TypeId} {af} {g} {rest : List Oper} {a : Act} {w : World} (h : wpList P ops Q ({ dst := d, op := .call { callee := .value (.tmp k), args := args, argTypes := ats }, type := ty, pos := p, after := af, guard := g } :: rest) a w) : wpList P ops Q ({ dst := d, op := .call { callee := .value (.tmp k), args := args, argTypes := ats }, type := ty, pos := p, after := af, guard := g } :: rest) a w := h
/-- What stands behind r, first what stands first, then what stands behind that. -/
def pre (R : List UInt8 → List (List UInt8)) : Nat → List UInt8 → List (List UInt8)
  | 0, _ => []
  | n + 1, r => (R r).flatMap fun x => x :: pre R n x
/-- No way from r is longer than n. -/
def Dep (R : List UInt8 → List (List UInt8)) : Nat → List UInt8 → Prop
  | 0, r => R r = []
  | n + 1, r => ∀ x ∈ R r, Dep R n x
def rowsB (B : Bhs) (r : List UInt8) : List (List UInt8) := (rowB B r).2
theorem flat_take {α β : Type} {l : List α} {k : Nat} {x : α} (h : l[k]? = some x) (f : α → List β) : (l.take (k + 1)).flatMap f = (l.take k).flatMap f ++ f x := by
  rw [List.take_add_one, h, List.flatMap_append]
  simp
theorem flat_len {α β : Type} {l : List α} {k : Nat} {x : α} (h : l[k]? = some x) (f : α → List β) : ((l.take k).flatMap f).length + (f x).length ≤ (l.flatMap f).length := by
  have e : l.flatMap f = (l.take k).flatMap f ++ (l.drop k).flatMap f := by rw [← List.flatMap_append, List.take_append_drop]
  have hk := (List.getElem?_eq_some_iff.1 h).1
  rw [e, List.drop_eq_getElem_cons hk, (List.getElem?_eq_some_iff.1 h).2, List.flatMap_cons]
  simp only [List.length_append]
  omega
end Sq
end Go.Proofs.YtgpimeobkacniaaGreat
