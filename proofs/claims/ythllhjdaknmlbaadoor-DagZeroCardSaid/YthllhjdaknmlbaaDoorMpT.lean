/-
  Maps in regions that draw their order: look-up, store.
-/
import Derived.Test.YthllhjdaknmlbaaDoorMp2
import Derived.Test.YthllhjdaknmlbaaDoorGTx
set_option linter.unusedVariables false
set_option linter.unusedSimpArgs false
namespace Go.Proofs.YthllhjdaknmlbaaDoor
open Go.RowKit
namespace Mp
set_option linter.unusedSectionVars false
variable {P : Program} {α : Type} [DecidableEq α]
theorem Is.le {ok : α → Prop} {enc : α → Value} {w w2 : World} {b : Nat} {D : List (α × Value)} (h : Is ok enc w b D) (hl : Txt.Le w w2) : Is ok enc w2 b D := by
  obtain ⟨es, clock, hb, h1⟩ := h.lay
  exact ⟨⟨es, clock, hl _ _ hb, h1⟩, h.nd, h.ok⟩
section
variable {ops : Array Oper} {S : World → Prop} {rest : List Oper} {ts : List Nat} {o : Oper} {a : Act} {w : World} {Q : Act → World → Prop} {K : TypeId} {ok : α → Prop} {enc : α → Value} (hK : Key P K ok enc) {T E : TypeId} (hT : P.underlying T = some (.map K E)) {b : Nat} {D : List (α × Value)}
include hK hT
theorem ex_look {m x : Operand} (ho : o.op = .lookup T m x false) (hm : a.eval m = .map (some b)) (h : Is ok enc w b D) {z : Value} (hz : ∀ w, (zeroValue E).run P w = .ok z w) {k : α} (hk : ok k) (hx : a.eval x = enc k) {v : Value} (hv : (get D k).getD z = v) : (execOp a.eval o).run P w = .ok (.value v) w := by
  subst hv
  simp [execOp, ho, hm, hx, run_look hK hT h (hz w) hk]
theorem ex_lookok {m x : Operand} (ho : o.op = .lookup T m x true) (hm : a.eval m = .map (some b)) (h : Is ok enc w b D) {z : Value} (hz : ∀ w, (zeroValue E).run P w = .ok z w) {k : α} (hk : ok k) (hx : a.eval x = enc k) {v : Value} {t : Bool} (hv : (get D k).getD z = v) (ht : (get D k).isSome = t) : (execOp a.eval o).run P w = .ok (.value (.tuple #[v, .bool t])) w := by
  subst hv ht
  simp [execOp, ho, hm, hx, run_look_ok hK hT h (hz w) hk]
/-- 'm[k]'. -/
theorem tl_look (hw : Region.wanted o (yielded ops a.tmps) = true) {m x : Operand} (ho : o.op = .lookup T m x false) (hm : a.eval m = .map (some b)) (h : Is ok enc w b D) {z : Value} (hz : ∀ w, (zeroValue E).run P w = .ok z w) {k : α} (hk : ok k) (hx : a.eval x = enc k) {v : Value} (hv : (get D k).getD z = v)
    (hh : Txt.wpTG P ops S Q rest ts (a.put o.dst v) w) : Txt.wpTG P ops S Q (o :: rest) (1 :: ts) a w :=
  Txt.tl_read hw (fun _ hl => ex_look hK hT ho hm (h.le hl) hz hk hx hv) hh
/-- 'v, ok := m[k]'. -/
theorem tl_lookok (hw : Region.wanted o (yielded ops a.tmps) = true) {m x : Operand} (ho : o.op = .lookup T m x true) (hm : a.eval m = .map (some b)) (h : Is ok enc w b D) {z : Value} (hz : ∀ w, (zeroValue E).run P w = .ok z w) {k : α} (hk : ok k) (hx : a.eval x = enc k) {v : Value} {t : Bool} (hv : (get D k).getD z = v) (ht : (get D k).isSome = t)
    (hh : Txt.wpTG P ops S Q rest ts (a.put o.dst (.tuple #[v, .bool t])) w) : Txt.wpTG P ops S Q (o :: rest) (1 :: ts) a w :=
  Txt.tl_read hw (fun _ hl => ex_lookok hK hT ho hm (h.le hl) hz hk hx hv ht) hh
/-- 'm[k] = v'. -/
theorem wp_put {K' : Act → World → Prop} {Q' : Exit → Act → World → Prop} {m x y : Operand} (ho : o.op = .mapUpdate T m x y) (hm : a.eval m = .map (some b)) (h : Is ok enc w b D) {k : α} (hk : ok k) (hx : a.eval x = enc k) {v : Value} (hv : a.eval y = v)
    (hh : ∀ w', Is ok enc w' b (put D k v) → Keep (fun k => k = b) w w' → K' (a.put o.dst undef) w') : o.wp P a w K' Q' := by
  obtain ⟨w', hrun, h1, h2⟩ := run_put hK hT h hk v
  unfold Oper.wp
  simp [execOp, ho, hm, hx, hv, hrun]
  exact hh w' h1 h2
end
end Mp
end Go.Proofs.YthllhjdaknmlbaaDoor
