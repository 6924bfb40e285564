/-
  header.Ahead and petrelref08.Ahead.
-/
import Derived.Test.YtgpimeobkacniaaGRf
import Derived.Test.YtgpimeobkacniaaSq2
set_option linter.unusedVariables false
set_option linter.unusedSimpArgs false
namespace Go.Proofs.Ytgpimeobkacniaa
open Go.RowKit
namespace Sq
open Oct Ids
open Mem (M blk)
section
variable {ops : Array Oper} {rest : List Oper} {op : Oper} {a : Act} {w : World} {Q : Exit → Act → World → Prop}
/-- 'load an id', guarded or not. -/
theorem wl_loadG (hw : Region.wanted op (yielded ops a.tmps) = true) {x : Operand} (ho : op.op = .load 35 x) {b o : Nat} (hx : a.eval x = .pointer (some ⟨b, o, none⟩)) {l : List UInt8} (hl : l.length = 32) (hr : w.rangeAt b o (l.map bv))
    (h : wpList Try.prog ops Q rest (a.put op.dst (idv l)) w) : wpList Try.prog ops Q (op :: rest) a w :=
  wpList_step fun K hK => by
    rw [if_pos hw]
    exact wp_load_mid _ x ho b o hx (l.map bv) _ hr Try.underlying35 rfl (by rw [info32, List.length_map, hl]) (hK _ _ h)
end
/-- Does the first one stand ahead? -/
def ah (x : Int) (a : List UInt8) (y : Int) (b : List UInt8) : Bool := decide (x < y) || (x == y && decide (IdL.cmpL a b < 0))
set_option maxRecDepth 100000 in
theorem ahead_any (w : World) (x y : Int) (a b : List UInt8) (ha : a.length = 32) (hb : b.length = 32) (v : Bool) (hv : ah x a y b = v) :
    Calls Try.prog 114 #[.int .i64 x, idv a, .int .i64 y, idv b] w fun e w' => e = .returned (.bool v) ∧ Keep (fun _ => False) w w' := by
  have HM : Hid (M (fun _ => False) w _ [blk w.heap.size (.cells (a.map bv).toArray 35), blk (w.heap.size + 1) (.cells (b.map bv).toArray 35)]) := ((M.start _ w).alloc (.cells (a.map bv).toArray 35) rfl).alloc (.cells (b.map bv).toArray 35) (by simp)
  have La : Hid (a.length = 32) := ha
  have Lb : Hid (b.length = 32) := hb
  have HV : Hid (ah x a y b = v) := hv
  have Hc : Hid (∀ w, _) := fun w => compare_any w a b ha hb
  clear ha hb hv
  obtain ⟨q, hq⟩ : ∃ q, IdL.cmpL a b = q := ⟨_, rfl⟩
  have Hq : Hid _ := hq
  rw [hq] at Hc
  clear hq
  go_enter Try.func114, Try.ntmps114
  go_wp2_with (first | ((with_reducible refine at_load 35 ?_); first | (refine Ids.wl_load rfl rfl rfl La.out (HM.out.range 0 rfl) ?_; simp only [Act.put, List.setIfInBounds_toArray, List.set_cons_zero, List.set_cons_succ]) | (refine Ids.wl_load rfl rfl rfl Lb.out (HM.out.range 1 rfl) ?_; simp only [Act.put, List.setIfInBounds_toArray, List.set_cons_zero, List.set_cons_succ])) | (go_at_call 87; refine (Hc.out _).mono ?_; rintro e w1 ⟨rfl, k1⟩; have HM : Hid _ := HM.out.calm k1.keep; clear k1))
  all_goals
    go_ret
    refine ⟨?_, HM.out.keep⟩
    have e := HV.out
    have e2 := Hq.out
    unfold ah at e
    rw [e2] at e
    subst e
    first | (simp_all; done) | (simp_all; omega)
set_option maxRecDepth 100000 in
theorem xahead_any (w : World) (x y : Int) (a b : List UInt8) (ha : a.length = 32) (hb : b.length = 32) (v : Bool) (hv : ah x a y b = v) :
    Calls Try.prog 18 #[.int .i64 x, idv a, .int .i64 y, idv b] w fun e w' => e = .returned (.bool v) ∧ Keep (fun _ => False) w w' := by
  have HM : Hid (M (fun _ => False) w _ [blk w.heap.size (.cells (a.map bv).toArray 35), blk (w.heap.size + 1) (.cells (b.map bv).toArray 35)]) := ((M.start _ w).alloc (.cells (a.map bv).toArray 35) rfl).alloc (.cells (b.map bv).toArray 35) (by simp)
  have La : Hid (a.length = 32) := ha
  have Lb : Hid (b.length = 32) := hb
  have HV : Hid (ah x a y b = v) := hv
  have Hc : Hid (∀ w, _) := fun w => xcompare_any w a b ha hb
  clear ha hb hv
  obtain ⟨q, hq⟩ : ∃ q, IdL.cmpL a b = q := ⟨_, rfl⟩
  have Hq : Hid _ := hq
  rw [hq] at Hc
  clear hq
  rcases (by omega : x < y ∨ x = y ∨ (y < x ∧ x ≠ y)) with h | h | ⟨h, h'⟩
  · go_enter Try.func18, Try.ntmps18
    go_wp2
    go_ret
    refine ⟨?_, HM.out.keep⟩
    have e := HV.out
    unfold ah at e
    rw [decide_eq_true h, Bool.true_or] at e
    subst e
    rfl
  · subst h
    go_enter Try.func18, Try.ntmps18
    go_wp2_with (first | ((with_reducible refine at_load 35 ?_); first | (refine wl_loadG (by rfl) rfl rfl La.out (HM.out.range 0 rfl) ?_; simp only [Act.put, List.setIfInBounds_toArray, List.set_cons_zero, List.set_cons_succ]) | (refine wl_loadG (by rfl) rfl rfl Lb.out (HM.out.range 1 rfl) ?_; simp only [Act.put, List.setIfInBounds_toArray, List.set_cons_zero, List.set_cons_succ])) | (go_at_call 54; refine (Hc.out _).mono ?_; rintro e w1 ⟨rfl, k1⟩; have HM : Hid _ := HM.out.calm k1; clear k1))
    go_ret
    refine ⟨?_, HM.out.keep⟩
    have e := HV.out
    unfold ah at e
    rw [Hq.out] at e
    subst e
    simp
  · have h1 : (x == y) = false := by simpa using h'
    have h2 : ¬ x < y := by omega
    have h3 : y ≤ x := by omega
    go_enter Try.func18, Try.ntmps18
    go_wp2
    go_ret
    refine ⟨?_, HM.out.keep⟩
    have e := HV.out
    unfold ah at e
    rw [decide_eq_false (show ¬ x < y by omega), h1] at e
    subst e
    simp
end Sq
end Go.Proofs.Ytgpimeobkacniaa
