/-
  Drawn regions in which two things that are made change places: all orders, one end.
-/
import Derived.Test.YtgllkfolckbdhaaGreatDoorGTx
import Derived.Test.YtgllkfolckbdhaaGreatDoorRows4
import Derived.Test.YtgllkfolckbdhaaGreatDoorGOp
set_option linter.unusedVariables false
set_option linter.unusedSimpArgs false
namespace Go.Proofs.YtgllkfolckbdhaaGreatDoor
open Go.RowKit
namespace Txt
section
variable {P : Program} {ops : Array Oper} {o : Oper} {a : Act} {w : World} {K : Act → World → Prop} {Q : Exit → Act → World → Prop}
/-- What a region comes to, said once. -/
theorem region_to {id : Nat} (R : Act → Act → World → Prop) (h : (Code.region id ops true).wp P (fun ex a' w' => ex = .normal ∧ R a a' w') a w) (k : ∀ a' w', R a a' w' → Q .normal a' w') : (Code.region id ops true).wp P Q a w :=
  Code.wp_mono (fun e a' w' h => by obtain ⟨rfl, h⟩ := h; exact k a' w' h) h
theorem is_any {md : Region.Mode} {fuel : Nat} {listed : Array Bool} (h : wpAny P md ops Q fuel listed a w) : wpAny P md ops Q fuel listed a w := h
theorem is_dst (k : Nat) {op : Op} {t : TypeId} {ps : String} {af : Array Edge} {gd : Option (Nat × Bool)} (h : (Oper.mk (some k) op t ps af gd).wp P a w K Q) : (Oper.mk (some k) op t ps af gd).wp P a w K Q := h
theorem is_nodst {op : Op} {t : TypeId} {ps : String} {af : Array Edge} {gd : Option (Nat × Bool)} (h : (Oper.mk none op t ps af gd).wp P a w K Q) : (Oper.mk none op t ps af gd).wp P a w K Q := h
theorem is_op (h : o.wp P a w K Q) : o.wp P a w K Q := h
theorem wanted_none {y : Nat → Option Bool} (h : o.guard = none) : Region.wanted o y = true := by simp [Region.wanted, h]
/-- No operation of it is guarded. -/
def noGuard (ops : Array Oper) : Bool := ops.toList.all fun o => o.guard.isNone
theorem wanted_of (hg : noGuard ops = true) {i : Nat} (hi : i < ops.size) {y : Nat → Option Bool} : Region.wanted ops[i] y = true := by
  unfold noGuard at hg
  rw [List.all_eq_true] at hg
  have := hg ops[i] (by simp)
  exact wanted_none (by simpa using this)
/-- Those that may come up. -/
theorem any1 {fuel : Nat} (i : Nat) {listed : Array Bool} (hi : i < ops.size) (hg : noGuard ops = true) (hr : Region.ready .any ops listed = [i])
    (h : (ops[i]).wp P a w (wpAny P .any ops Q fuel (listed.setIfInBounds i true)) Q) : wpAny P .any ops Q (fuel + 1) listed a w :=
  wpAny_ready hr (by simp) (AllReady.cons (Array.getElem?_eq_getElem hi) (fun K hK => by
    rw [if_pos (wanted_of hg hi)]
    exact Oper.wp_mono hK h) AllReady.nil)
theorem any2 {fuel : Nat} (i j : Nat) {listed : Array Bool} (hi : i < ops.size) (hj : j < ops.size) (hg : noGuard ops = true) (hr : Region.ready .any ops listed = [i, j])
    (h : (ops[i]).wp P a w (wpAny P .any ops Q fuel (listed.setIfInBounds i true)) Q)
    (h' : (ops[j]).wp P a w (wpAny P .any ops Q fuel (listed.setIfInBounds j true)) Q) : wpAny P .any ops Q (fuel + 1) listed a w :=
  wpAny_ready hr (by simp) (AllReady.cons (Array.getElem?_eq_getElem hi) (fun K hK => by
    rw [if_pos (wanted_of hg hi)]
    exact Oper.wp_mono hK h) (AllReady.cons (Array.getElem?_eq_getElem hj) (fun K hK => by
    rw [if_pos (wanted_of hg hj)]
    exact Oper.wp_mono hK h') AllReady.nil))
theorem any3 {fuel : Nat} (i j m : Nat) {listed : Array Bool} (hi : i < ops.size) (hj : j < ops.size) (hm : m < ops.size) (hg : noGuard ops = true) (hr : Region.ready .any ops listed = [i, j, m])
    (h : (ops[i]).wp P a w (wpAny P .any ops Q fuel (listed.setIfInBounds i true)) Q)
    (h' : (ops[j]).wp P a w (wpAny P .any ops Q fuel (listed.setIfInBounds j true)) Q)
    (h'' : (ops[m]).wp P a w (wpAny P .any ops Q fuel (listed.setIfInBounds m true)) Q) : wpAny P .any ops Q (fuel + 1) listed a w :=
  wpAny_ready hr (by simp) (AllReady.cons (Array.getElem?_eq_getElem hi) (fun K hK => by
    rw [if_pos (wanted_of hg hi)]
    exact Oper.wp_mono hK h) (AllReady.cons (Array.getElem?_eq_getElem hj) (fun K hK => by
    rw [if_pos (wanted_of hg hj)]
    exact Oper.wp_mono hK h') (AllReady.cons (Array.getElem?_eq_getElem hm) (fun K hK => by
    rw [if_pos (wanted_of hg hm)]
    exact Oper.wp_mono hK h'') AllReady.nil)))
/-- A load of one cell. -/
theorem wp_ld {ty : TypeId} {x : Operand} {p : Addr} {v : Value} (ho : o.op = .load ty x) (he : a.eval x = .pointer (some p)) (ht : oneTy P ty = true) (hc : w.cell? p = some v) (h : K (a.put o.dst v) w) : o.wp P a w K Q := by
  unfold Oper.wp
  rw [execLoad ho he (run_load_one ht hc)]
  exact h
/-- A load of many. -/
theorem wp_ldN {n : Nat} {ty : TypeId} {x : Operand} {b i : Nat} {cs : List Value} (ho : o.op = .load ty x) (he : a.eval x = .pointer (some ⟨b, i, none⟩)) (hr : w.rangeAt b i cs) (ht : rowTy P ty n = true) (hn : cs.length = n) (h : K (a.put o.dst (.agg cs.toArray)) w) : o.wp P a w K Q := by
  subst hn
  unfold Oper.wp
  rw [execLoad ho he (run_load_row ht hr)]
  exact h
end
end Txt
end Go.Proofs.YtgllkfolckbdhaaGreatDoor
