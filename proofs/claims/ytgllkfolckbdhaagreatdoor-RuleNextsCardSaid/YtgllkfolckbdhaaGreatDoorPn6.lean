/-
  The pen: Put.
-/
import Derived.Test.YtgllkfolckbdhaaGreatDoorPn5
set_option linter.unusedVariables false
set_option linter.unusedSimpArgs false
namespace Go.Proofs.YtgllkfolckbdhaaGreatDoor
open Go.RowKit
namespace St
section
variable {T : TypeId} {n : Nat} {Z : Array Value}
/-- What a function answers whose first of three results is a struct, in a variable of its own. -/
theorem res3 (hT : Ty T n Z) {fn : Func} {p q r : Tmp} (h : fn.results = #[.cell p T, .tmp q, .tmp r]) (tmps : Array Value) (w : World) (g : Nat) (cs : Array Value) (hc : cs.size = n) (hp : tmps.getD p undef = .pointer (some ⟨g, 0, none⟩)) {fr : Nat × Nat} (hg : w.heap[g]? = some (.cells cs T fr)) (e f : Value) (hq : tmps.getD q undef = e) (hr : tmps.getD r undef = f) :
    (results fn tmps).run Tryz.prog w = .ok (.tuple #[.agg cs, e, f]) w := by
  have hp' : tmps[p]?.getD undef = .pointer (some ⟨g, 0, none⟩) := by simpa using hp
  have hq' : tmps[q]?.getD undef = e := by simpa using hq
  have hr' : tmps[r]?.getD undef = f := by simpa using hr
  obtain ⟨d, hu, hd⟩ := hT.und
  simp [results, h, hp', hq', hr', asAddr, run_loadVar_row w g _ _ cs fr _ hg hu (by cases d <;> simp_all) (by rw [hT.sz, hc])]
end
end St
namespace Txt
theorem tl_build {P : Program} {ops : Array Oper} {S : World → Prop} {Q : Act → World → Prop} {o : Oper} {rest : List Oper} {ts : List Nat} {a : Act} {w : World} {v : Value} (hw : Region.wanted o (yielded ops a.tmps) = true) {T : TypeId} {parts : Array (Nat × Operand)} (ho : o.op = .build T parts) (ps : Array (Nat × Value)) (hp : (parts.toList.map fun (i, x) => (i, a.eval x)) = ps.toList) (hr : ∀ w2, (Instr.build T ps).run P w2 = .ok v w2)
    (k : wpTG P ops S Q rest ts (a.put o.dst v) w) : wpTG P ops S Q (o :: rest) (0 :: ts) a w :=
  tl_pure hw (fun w2 => by
    have e : (parts.map fun (i, x) => (i, a.eval x)) = ps := Array.toList_inj.1 (by rw [Array.toList_map]; exact hp)
    unfold execOp
    simp only [ho, e, Sem.run_bind, hr, Result.andThen_ok, Sem.run_pure]) k
end Txt
namespace Pn
open Oct Ids Gn Hd
open Mem (M It blk ids rows)
theorem hd_set (pv : Value) (G : Int) (T : ByteArray) (A Q Z : Int) (m : List UInt8) (v : Value) : (hd pv G T A Q Z m).toArray.setIfInBounds 0 v = (hd v G T A Q Z m).toArray := by
  rw [List.setIfInBounds_toArray]
  rfl
theorem keep_new {w w1 : World} {b : Nat} (k : Keep (fun _ => False) w w1) (hb : w.heap.size ≤ b) (cs : Array Value) : Keep (fun _ => False) w (w1.setRow b cs) :=
  k.trans' ((Keep.refl (fun k => k = b) _).setRow b cs (fun _ => rfl)) (fun _ _ h => h) (fun j hj (e : j = b) => by omega)
end Pn
end Go.Proofs.YtgllkfolckbdhaaGreatDoor
