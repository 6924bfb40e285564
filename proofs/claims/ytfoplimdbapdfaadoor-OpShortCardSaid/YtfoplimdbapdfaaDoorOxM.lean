/-
  op.Same, petrelref07.Same; op.Belongs, petrelref07.Belongs.
-/
import Derived.Test.YtfoplimdbapdfaaDoorOxH
import Derived.Test.YtfoplimdbapdfaaDoorGTx
import Derived.Test.YtfoplimdbapdfaaDoorGOp
set_option linter.unusedVariables false
set_option linter.unusedSimpArgs false
namespace Go.Proofs.YtfoplimdbapdfaaDoor
open Go.RowKit
namespace Ox
open Oct Ids
open Mem (M blk)

/-- To which topics a kind belongs. -/
def bl (K : Int) : Int := if K = 1 then 1 else if K = 2 ∨ K = 3 then 2 else if K = 4 then 3 else if K = 5 then 4 else if K = 6 ∨ K = 7 then 5 else 0
set_option maxRecDepth 100000 in
theorem belongs_any (w : World) (K v : Int) (hv : bl K = v) : Calls Tryd.prog 20 #[.int .i64 K] w fun e w' => e = .returned (.int .i64 v) ∧ w' = w := by
  have HV : Hid (bl K = v) := hv
  clear hv
  go_enter Tryd.func20, Tryd.ntmps20
  go_wp2
  all_goals
    go_ret
    refine ⟨?_, rfl⟩
    have e := HV.out
    unfold bl at e
    repeat' split at e
    all_goals first | (subst e; rfl) | (exfalso; simp_all; done) | (exfalso; simp_all; omega)
set_option maxRecDepth 100000 in
theorem rbelongs_any (w : World) (K v : Int) (hv : bl K = v) : Calls Tryd.prog 21 #[.int .i64 K] w fun e w' => e = .returned (.int .i64 v) ∧ w' = w := by
  have HV : Hid (bl K = v) := hv
  clear hv
  go_enter Tryd.func21, Tryd.ntmps21
  go_wp2
  all_goals
    go_ret
    refine ⟨?_, rfl⟩
    have e := HV.out
    unfold bl at e
    repeat' split at e
    all_goals first | (subst e; rfl) | (exfalso; simp_all; done) | (exfalso; simp_all; omega)
theorem o_at {F : Nat → Prop} {w0 w : World} {it : List Mem.It} (h : M F w0 w it) (i : Nat) {b : Nat} {K N : Int} {Y V : ByteArray} {r : List UInt8} {rv : Value} (hi : it[i]? = some (blk b (.cells (oc K N Y V r rv).toArray 27))) (hr : r.length = 32) : OAt w b K N Y V r rv := ⟨h.get i hi, hr⟩
/-- Are two operations the same? -/
def sm (K N : Int) (Y V : ByteArray) (r : List UInt8) (l : List (List UInt8)) (K2 N2 : Int) (Y2 V2 : ByteArray) (r2 : List UInt8) (l2 : List (List UInt8)) : Bool := K == K2 && (N == N2 && (Y.toList == Y2.toList && (V.toList == V2.toList && (r == r2 && decide (l = l2)))))
set_option maxRecDepth 100000 in
set_option maxHeartbeats 4000000 in
theorem rsame_o (w : World) (K N K2 N2 : Int) (Y V Y2 V2 : ByteArray) (r r2 : List UInt8) (a a2 : Option Addr) (n c n2 c2 : Nat) (l l2 : List (List UInt8)) (hr : r.length = 32) (hr2 : r2.length = 32) (h1 : At w a n l) (h2 : At w a2 n2 l2) (v : Bool) (hv : sm K N Y V r l K2 N2 Y2 V2 r2 l2 = v) :
    Calls Tryd.prog 14 #[.agg (oc K N Y V r (.slice a n c)).toArray, .agg (oc K2 N2 Y2 V2 r2 (.slice a2 n2 c2)).toArray] w fun e w' => e = .returned (.bool v) ∧ Keep (fun _ => False) w w' := by
  subst hv
  by_cases hk : K = K2
  case neg =>
    have k1 : (K == K2) = false := by simpa using hk
    have k2 : (K != K2) = true := by simpa using hk
    rw [show sm K N Y V r l K2 N2 Y2 V2 r2 l2 = false from by simp [sm, k1]]
    clear hk
    have A1 : Hid (At w a n l) := h1
    have A2 : Hid (At w a2 n2 l2) := h2
    have Hr : Hid (r.length = 32) := hr
    have Hr2 : Hid (r2.length = 32) := hr2
    have hgd := guard_id
    have HM : Hid (M (fun _ => False) w _ [blk w.heap.size (.cells (oc K N Y V r (.slice a n c)).toArray 27), blk (w.heap.size + 1) (.cells (oc K2 N2 Y2 V2 r2 (.slice a2 n2 c2)).toArray 27)]) := ((M.start _ w).alloc (.cells (oc K N Y V r (.slice a n c)).toArray 27) rfl).alloc (.cells (oc K2 N2 Y2 V2 r2 (.slice a2 n2 c2)).toArray 27) (by simp)
    have E1 : Hid _ := o_at HM.out 0 rfl hr
    have E2 : Hid _ := o_at HM.out 1 rfl hr2
    obtain ⟨g0, g1, g2, g3, g36⟩ := E1.out.cells
    obtain ⟨q0, q1, q2, q3, q36⟩ := E2.out.cells
    have R1 : Hid _ := E1.out.ref
    have R2 : Hid _ := E2.out.ref
    generalize hX : (oc K N Y V r (.slice a n c)).toArray = X at HM E1 E2 g0 g1 g2 g3 g36 q0 q1 q2 q3 q36 R1 R2 ⊢
    generalize hX2 : (oc K2 N2 Y2 V2 r2 (.slice a2 n2 c2)).toArray = X2 at HM E1 E2 g0 g1 g2 g3 g36 q0 q1 q2 q3 q36 R1 R2 ⊢
    have HX : Hid _ := hX
    have HX2 : Hid _ := hX2
    clear hX hX2
    clear h1 h2 hr hr2
    go_enter Tryd.func14, Tryd.ntmps14
    go_wp2_with (first | ((with_reducible refine at_load 24 ?_); first | (refine wl_loadG (by rfl) rfl rfl Hr.out R1.out ?_; simp only [Act.put, List.setIfInBounds_toArray, List.set_cons_zero, List.set_cons_succ]) | (refine wl_loadG (by rfl) rfl rfl Hr2.out R2.out ?_; simp only [Act.put, List.setIfInBounds_toArray, List.set_cons_zero, List.set_cons_succ])))
    go_ret
    exact ⟨rfl, HM.out.keep⟩
  have k1 : (K == K2) = true := by simpa using hk
  have k2 : (K != K2) = false := by simpa using hk
  by_cases hn : N = N2
  case neg =>
    have n1 : (N == N2) = false := by simpa using hn
    have n2' : (N != N2) = true := by simpa using hn
    rw [show sm K N Y V r l K2 N2 Y2 V2 r2 l2 = false from by simp [sm, n1]]
    clear hn hk
    have A1 : Hid (At w a n l) := h1
    have A2 : Hid (At w a2 n2 l2) := h2
    have Hr : Hid (r.length = 32) := hr
    have Hr2 : Hid (r2.length = 32) := hr2
    have hgd := guard_id
    have HM : Hid (M (fun _ => False) w _ [blk w.heap.size (.cells (oc K N Y V r (.slice a n c)).toArray 27), blk (w.heap.size + 1) (.cells (oc K2 N2 Y2 V2 r2 (.slice a2 n2 c2)).toArray 27)]) := ((M.start _ w).alloc (.cells (oc K N Y V r (.slice a n c)).toArray 27) rfl).alloc (.cells (oc K2 N2 Y2 V2 r2 (.slice a2 n2 c2)).toArray 27) (by simp)
    have E1 : Hid _ := o_at HM.out 0 rfl hr
    have E2 : Hid _ := o_at HM.out 1 rfl hr2
    obtain ⟨g0, g1, g2, g3, g36⟩ := E1.out.cells
    obtain ⟨q0, q1, q2, q3, q36⟩ := E2.out.cells
    have R1 : Hid _ := E1.out.ref
    have R2 : Hid _ := E2.out.ref
    generalize hX : (oc K N Y V r (.slice a n c)).toArray = X at HM E1 E2 g0 g1 g2 g3 g36 q0 q1 q2 q3 q36 R1 R2 ⊢
    generalize hX2 : (oc K2 N2 Y2 V2 r2 (.slice a2 n2 c2)).toArray = X2 at HM E1 E2 g0 g1 g2 g3 g36 q0 q1 q2 q3 q36 R1 R2 ⊢
    have HX : Hid _ := hX
    have HX2 : Hid _ := hX2
    clear hX hX2
    clear h1 h2 hr hr2
    go_enter Tryd.func14, Tryd.ntmps14
    go_wp2_with (first | ((with_reducible refine at_load 24 ?_); first | (refine wl_loadG (by rfl) rfl rfl Hr.out R1.out ?_; simp only [Act.put, List.setIfInBounds_toArray, List.set_cons_zero, List.set_cons_succ]) | (refine wl_loadG (by rfl) rfl rfl Hr2.out R2.out ?_; simp only [Act.put, List.setIfInBounds_toArray, List.set_cons_zero, List.set_cons_succ])))
    go_ret
    exact ⟨rfl, HM.out.keep⟩
  have n1 : (N == N2) = true := by simpa using hn
  have n2' : (N != N2) = false := by simpa using hn
  by_cases hy : Y.toList = Y2.toList
  case neg =>
    rw [show sm K N Y V r l K2 N2 Y2 V2 r2 l2 = false from by simp [sm, hy]]
    clear hn hk
    have A1 : Hid (At w a n l) := h1
    have A2 : Hid (At w a2 n2 l2) := h2
    have Hr : Hid (r.length = 32) := hr
    have Hr2 : Hid (r2.length = 32) := hr2
    have hgd := guard_id
    have HM : Hid (M (fun _ => False) w _ [blk w.heap.size (.cells (oc K N Y V r (.slice a n c)).toArray 27), blk (w.heap.size + 1) (.cells (oc K2 N2 Y2 V2 r2 (.slice a2 n2 c2)).toArray 27)]) := ((M.start _ w).alloc (.cells (oc K N Y V r (.slice a n c)).toArray 27) rfl).alloc (.cells (oc K2 N2 Y2 V2 r2 (.slice a2 n2 c2)).toArray 27) (by simp)
    have E1 : Hid _ := o_at HM.out 0 rfl hr
    have E2 : Hid _ := o_at HM.out 1 rfl hr2
    obtain ⟨g0, g1, g2, g3, g36⟩ := E1.out.cells
    obtain ⟨q0, q1, q2, q3, q36⟩ := E2.out.cells
    have R1 : Hid _ := E1.out.ref
    have R2 : Hid _ := E2.out.ref
    generalize hX : (oc K N Y V r (.slice a n c)).toArray = X at HM E1 E2 g0 g1 g2 g3 g36 q0 q1 q2 q3 q36 R1 R2 ⊢
    generalize hX2 : (oc K2 N2 Y2 V2 r2 (.slice a2 n2 c2)).toArray = X2 at HM E1 E2 g0 g1 g2 g3 g36 q0 q1 q2 q3 q36 R1 R2 ⊢
    have HX : Hid _ := hX
    have HX2 : Hid _ := hX2
    clear hX hX2
    clear h1 h2 hr hr2
    go_enter Tryd.func14, Tryd.ntmps14
    go_wp2_with (first | ((with_reducible refine at_load 24 ?_); first | (refine wl_loadG (by rfl) rfl rfl Hr.out R1.out ?_; simp only [Act.put, List.setIfInBounds_toArray, List.set_cons_zero, List.set_cons_succ]) | (refine wl_loadG (by rfl) rfl rfl Hr2.out R2.out ?_; simp only [Act.put, List.setIfInBounds_toArray, List.set_cons_zero, List.set_cons_succ])))
    go_ret
    exact ⟨rfl, HM.out.keep⟩
  by_cases hw : V.toList = V2.toList
  case neg =>
    rw [show sm K N Y V r l K2 N2 Y2 V2 r2 l2 = false from by simp [sm, hw]]
    clear hn hk
    have A1 : Hid (At w a n l) := h1
    have A2 : Hid (At w a2 n2 l2) := h2
    have Hr : Hid (r.length = 32) := hr
    have Hr2 : Hid (r2.length = 32) := hr2
    have hgd := guard_id
    have HM : Hid (M (fun _ => False) w _ [blk w.heap.size (.cells (oc K N Y V r (.slice a n c)).toArray 27), blk (w.heap.size + 1) (.cells (oc K2 N2 Y2 V2 r2 (.slice a2 n2 c2)).toArray 27)]) := ((M.start _ w).alloc (.cells (oc K N Y V r (.slice a n c)).toArray 27) rfl).alloc (.cells (oc K2 N2 Y2 V2 r2 (.slice a2 n2 c2)).toArray 27) (by simp)
    have E1 : Hid _ := o_at HM.out 0 rfl hr
    have E2 : Hid _ := o_at HM.out 1 rfl hr2
    obtain ⟨g0, g1, g2, g3, g36⟩ := E1.out.cells
    obtain ⟨q0, q1, q2, q3, q36⟩ := E2.out.cells
    have R1 : Hid _ := E1.out.ref
    have R2 : Hid _ := E2.out.ref
    generalize hX : (oc K N Y V r (.slice a n c)).toArray = X at HM E1 E2 g0 g1 g2 g3 g36 q0 q1 q2 q3 q36 R1 R2 ⊢
    generalize hX2 : (oc K2 N2 Y2 V2 r2 (.slice a2 n2 c2)).toArray = X2 at HM E1 E2 g0 g1 g2 g3 g36 q0 q1 q2 q3 q36 R1 R2 ⊢
    have HX : Hid _ := hX
    have HX2 : Hid _ := hX2
    clear hX hX2
    clear h1 h2 hr hr2
    go_enter Tryd.func14, Tryd.ntmps14
    go_wp2_with (first | ((with_reducible refine at_load 24 ?_); first | (refine wl_loadG (by rfl) rfl rfl Hr.out R1.out ?_; simp only [Act.put, List.setIfInBounds_toArray, List.set_cons_zero, List.set_cons_succ]) | (refine wl_loadG (by rfl) rfl rfl Hr2.out R2.out ?_; simp only [Act.put, List.setIfInBounds_toArray, List.set_cons_zero, List.set_cons_succ])))
    go_ret
    exact ⟨rfl, HM.out.keep⟩
  by_cases hrr : r = r2
  case neg =>
    have r1 : (r == r2) = false := by simpa using hrr
    rw [show sm K N Y V r l K2 N2 Y2 V2 r2 l2 = false from by simp [sm, r1]]
    have hcmp1 : ∀ w, Sem.run Tryd.prog (binOp .neq 24 (idv r) (idv r2)) w = .ok (.bool true) w := fun w => by rw [neq_id w r r2 hr hr2, r1]; rfl
    have hcmp2 : ∀ w, Sem.run Tryd.prog (binOp .eql 24 (idv r) (idv r2)) w = .ok (.bool false) w := fun w => by rw [eql_id w r r2 hr hr2, r1]
    clear hn hk hrr r1
    have A1 : Hid (At w a n l) := h1
    have A2 : Hid (At w a2 n2 l2) := h2
    have Hr : Hid (r.length = 32) := hr
    have Hr2 : Hid (r2.length = 32) := hr2
    have hgd := guard_id
    have HM : Hid (M (fun _ => False) w _ [blk w.heap.size (.cells (oc K N Y V r (.slice a n c)).toArray 27), blk (w.heap.size + 1) (.cells (oc K2 N2 Y2 V2 r2 (.slice a2 n2 c2)).toArray 27)]) := ((M.start _ w).alloc (.cells (oc K N Y V r (.slice a n c)).toArray 27) rfl).alloc (.cells (oc K2 N2 Y2 V2 r2 (.slice a2 n2 c2)).toArray 27) (by simp)
    have E1 : Hid _ := o_at HM.out 0 rfl hr
    have E2 : Hid _ := o_at HM.out 1 rfl hr2
    obtain ⟨g0, g1, g2, g3, g36⟩ := E1.out.cells
    obtain ⟨q0, q1, q2, q3, q36⟩ := E2.out.cells
    have R1 : Hid _ := E1.out.ref
    have R2 : Hid _ := E2.out.ref
    generalize hX : (oc K N Y V r (.slice a n c)).toArray = X at HM E1 E2 g0 g1 g2 g3 g36 q0 q1 q2 q3 q36 R1 R2 ⊢
    generalize hX2 : (oc K2 N2 Y2 V2 r2 (.slice a2 n2 c2)).toArray = X2 at HM E1 E2 g0 g1 g2 g3 g36 q0 q1 q2 q3 q36 R1 R2 ⊢
    have HX : Hid _ := hX
    have HX2 : Hid _ := hX2
    clear hX hX2
    clear h1 h2 hr hr2
    go_enter Tryd.func14, Tryd.ntmps14
    go_wp2_with (first | ((with_reducible refine at_load 24 ?_); first | (refine wl_loadG (by rfl) rfl rfl Hr.out R1.out ?_; simp only [Act.put, List.setIfInBounds_toArray, List.set_cons_zero, List.set_cons_succ]) | (refine wl_loadG (by rfl) rfl rfl Hr2.out R2.out ?_; simp only [Act.put, List.setIfInBounds_toArray, List.set_cons_zero, List.set_cons_succ])))
    go_ret
    exact ⟨rfl, HM.out.keep⟩
  have r1 : (r == r2) = true := by simpa using hrr
  have hcmp1 : ∀ w, Sem.run Tryd.prog (binOp .neq 24 (idv r) (idv r2)) w = .ok (.bool false) w := fun w => by rw [neq_id w r r2 hr hr2, r1]; rfl
  have hcmp2 : ∀ w, Sem.run Tryd.prog (binOp .eql 24 (idv r) (idv r2)) w = .ok (.bool true) w := fun w => by rw [eql_id w r r2 hr hr2, r1]
  rw [show sm K N Y V r l K2 N2 Y2 V2 r2 l2 = decide (l = l2) from by simp [sm, k1, n1, hy, hw, r1]]
  clear hn hk hrr r1
  have A1 : Hid (At w a n l) := h1
  have A2 : Hid (At w a2 n2 l2) := h2
  have Hr : Hid (r.length = 32) := hr
  have Hr2 : Hid (r2.length = 32) := hr2
  have hgd := guard_id
  have HM : Hid (M (fun _ => False) w _ [blk w.heap.size (.cells (oc K N Y V r (.slice a n c)).toArray 27), blk (w.heap.size + 1) (.cells (oc K2 N2 Y2 V2 r2 (.slice a2 n2 c2)).toArray 27)]) := ((M.start _ w).alloc (.cells (oc K N Y V r (.slice a n c)).toArray 27) rfl).alloc (.cells (oc K2 N2 Y2 V2 r2 (.slice a2 n2 c2)).toArray 27) (by simp)
  have E1 : Hid _ := o_at HM.out 0 rfl hr
  have E2 : Hid _ := o_at HM.out 1 rfl hr2
  obtain ⟨g0, g1, g2, g3, g36⟩ := E1.out.cells
  obtain ⟨q0, q1, q2, q3, q36⟩ := E2.out.cells
  have R1 : Hid _ := E1.out.ref
  have R2 : Hid _ := E2.out.ref
  generalize hX : (oc K N Y V r (.slice a n c)).toArray = X at HM E1 E2 g0 g1 g2 g3 g36 q0 q1 q2 q3 q36 R1 R2 ⊢
  generalize hX2 : (oc K2 N2 Y2 V2 r2 (.slice a2 n2 c2)).toArray = X2 at HM E1 E2 g0 g1 g2 g3 g36 q0 q1 q2 q3 q36 R1 R2 ⊢
  have HX : Hid _ := hX
  have HX2 : Hid _ := hX2
  clear hX hX2
  clear h1 h2 hr hr2
  go_enter Tryd.func14, Tryd.ntmps14
  go_wp2_with (first | ((with_reducible refine at_load 24 ?_); first | (refine wl_loadG (by rfl) rfl rfl Hr.out R1.out ?_; simp only [Act.put, List.setIfInBounds_toArray, List.set_cons_zero, List.set_cons_succ]) | (refine wl_loadG (by rfl) rfl rfl Hr2.out R2.out ?_; simp only [Act.put, List.setIfInBounds_toArray, List.set_cons_zero, List.set_cons_succ])) | (go_at_call 47; refine (same_any _ a a2 n n2 c c2 l l2 (A1.out.calm HM.out.keep) (A2.out.calm HM.out.keep)).mono ?_; rintro e w3 ⟨rfl, h3⟩; have HM : Hid _ := HM.out.calm h3; clear h3))
  go_ret
  exact ⟨rfl, HM.out.keep⟩
set_option maxRecDepth 100000 in
set_option maxHeartbeats 4000000 in
theorem same_o (w : World) (K N K2 N2 : Int) (Y V Y2 V2 : ByteArray) (r r2 : List UInt8) (a a2 : Option Addr) (n c n2 c2 : Nat) (l l2 : List (List UInt8)) (hr : r.length = 32) (hr2 : r2.length = 32) (h1 : At w a n l) (h2 : At w a2 n2 l2) (v : Bool) (hv : sm K N Y V r l K2 N2 Y2 V2 r2 l2 = v) :
    Calls Tryd.prog 19 #[.agg (oc K N Y V r (.slice a n c)).toArray, .agg (oc K2 N2 Y2 V2 r2 (.slice a2 n2 c2)).toArray] w fun e w' => e = .returned (.bool v) ∧ Keep (fun _ => False) w w' := by
  subst hv
  by_cases hk : K = K2
  case neg =>
    have k1 : (K == K2) = false := by simpa using hk
    have k2 : (K != K2) = true := by simpa using hk
    rw [show sm K N Y V r l K2 N2 Y2 V2 r2 l2 = false from by simp [sm, k1]]
    clear hk
    have A1 : Hid (At w a n l) := h1
    have A2 : Hid (At w a2 n2 l2) := h2
    have Hr : Hid (r.length = 32) := hr
    have Hr2 : Hid (r2.length = 32) := hr2
    have hgd := guard_id
    have HM : Hid (M (fun _ => False) w _ [blk w.heap.size (.cells (oc K N Y V r (.slice a n c)).toArray 27), blk (w.heap.size + 1) (.cells (oc K2 N2 Y2 V2 r2 (.slice a2 n2 c2)).toArray 27)]) := ((M.start _ w).alloc (.cells (oc K N Y V r (.slice a n c)).toArray 27) rfl).alloc (.cells (oc K2 N2 Y2 V2 r2 (.slice a2 n2 c2)).toArray 27) (by simp)
    have E1 : Hid _ := o_at HM.out 0 rfl hr
    have E2 : Hid _ := o_at HM.out 1 rfl hr2
    obtain ⟨g0, g1, g2, g3, g36⟩ := E1.out.cells
    obtain ⟨q0, q1, q2, q3, q36⟩ := E2.out.cells
    have R1 : Hid _ := E1.out.ref
    have R2 : Hid _ := E2.out.ref
    generalize hX : (oc K N Y V r (.slice a n c)).toArray = X at HM E1 E2 g0 g1 g2 g3 g36 q0 q1 q2 q3 q36 R1 R2 ⊢
    generalize hX2 : (oc K2 N2 Y2 V2 r2 (.slice a2 n2 c2)).toArray = X2 at HM E1 E2 g0 g1 g2 g3 g36 q0 q1 q2 q3 q36 R1 R2 ⊢
    have HX : Hid _ := hX
    have HX2 : Hid _ := hX2
    clear hX hX2
    clear h1 h2 hr hr2
    go_enter Tryd.func19, Tryd.ntmps19
    go_wp2_with (first | ((with_reducible refine at_load 24 ?_); first | (refine wl_loadG (by rfl) rfl rfl Hr.out R1.out ?_; simp only [Act.put, List.setIfInBounds_toArray, List.set_cons_zero, List.set_cons_succ]) | (refine wl_loadG (by rfl) rfl rfl Hr2.out R2.out ?_; simp only [Act.put, List.setIfInBounds_toArray, List.set_cons_zero, List.set_cons_succ])))
    go_ret
    exact ⟨rfl, HM.out.keep⟩
  have k1 : (K == K2) = true := by simpa using hk
  have k2 : (K != K2) = false := by simpa using hk
  by_cases hn : N = N2
  case neg =>
    have n1 : (N == N2) = false := by simpa using hn
    have n2' : (N != N2) = true := by simpa using hn
    rw [show sm K N Y V r l K2 N2 Y2 V2 r2 l2 = false from by simp [sm, n1]]
    clear hn hk
    have A1 : Hid (At w a n l) := h1
    have A2 : Hid (At w a2 n2 l2) := h2
    have Hr : Hid (r.length = 32) := hr
    have Hr2 : Hid (r2.length = 32) := hr2
    have hgd := guard_id
    have HM : Hid (M (fun _ => False) w _ [blk w.heap.size (.cells (oc K N Y V r (.slice a n c)).toArray 27), blk (w.heap.size + 1) (.cells (oc K2 N2 Y2 V2 r2 (.slice a2 n2 c2)).toArray 27)]) := ((M.start _ w).alloc (.cells (oc K N Y V r (.slice a n c)).toArray 27) rfl).alloc (.cells (oc K2 N2 Y2 V2 r2 (.slice a2 n2 c2)).toArray 27) (by simp)
    have E1 : Hid _ := o_at HM.out 0 rfl hr
    have E2 : Hid _ := o_at HM.out 1 rfl hr2
    obtain ⟨g0, g1, g2, g3, g36⟩ := E1.out.cells
    obtain ⟨q0, q1, q2, q3, q36⟩ := E2.out.cells
    have R1 : Hid _ := E1.out.ref
    have R2 : Hid _ := E2.out.ref
    generalize hX : (oc K N Y V r (.slice a n c)).toArray = X at HM E1 E2 g0 g1 g2 g3 g36 q0 q1 q2 q3 q36 R1 R2 ⊢
    generalize hX2 : (oc K2 N2 Y2 V2 r2 (.slice a2 n2 c2)).toArray = X2 at HM E1 E2 g0 g1 g2 g3 g36 q0 q1 q2 q3 q36 R1 R2 ⊢
    have HX : Hid _ := hX
    have HX2 : Hid _ := hX2
    clear hX hX2
    clear h1 h2 hr hr2
    go_enter Tryd.func19, Tryd.ntmps19
    go_wp2_with (first | ((with_reducible refine at_load 24 ?_); first | (refine wl_loadG (by rfl) rfl rfl Hr.out R1.out ?_; simp only [Act.put, List.setIfInBounds_toArray, List.set_cons_zero, List.set_cons_succ]) | (refine wl_loadG (by rfl) rfl rfl Hr2.out R2.out ?_; simp only [Act.put, List.setIfInBounds_toArray, List.set_cons_zero, List.set_cons_succ])))
    go_ret
    exact ⟨rfl, HM.out.keep⟩
  have n1 : (N == N2) = true := by simpa using hn
  have n2' : (N != N2) = false := by simpa using hn
  by_cases hy : Y.toList = Y2.toList
  case neg =>
    rw [show sm K N Y V r l K2 N2 Y2 V2 r2 l2 = false from by simp [sm, hy]]
    clear hn hk
    have A1 : Hid (At w a n l) := h1
    have A2 : Hid (At w a2 n2 l2) := h2
    have Hr : Hid (r.length = 32) := hr
    have Hr2 : Hid (r2.length = 32) := hr2
    have hgd := guard_id
    have HM : Hid (M (fun _ => False) w _ [blk w.heap.size (.cells (oc K N Y V r (.slice a n c)).toArray 27), blk (w.heap.size + 1) (.cells (oc K2 N2 Y2 V2 r2 (.slice a2 n2 c2)).toArray 27)]) := ((M.start _ w).alloc (.cells (oc K N Y V r (.slice a n c)).toArray 27) rfl).alloc (.cells (oc K2 N2 Y2 V2 r2 (.slice a2 n2 c2)).toArray 27) (by simp)
    have E1 : Hid _ := o_at HM.out 0 rfl hr
    have E2 : Hid _ := o_at HM.out 1 rfl hr2
    obtain ⟨g0, g1, g2, g3, g36⟩ := E1.out.cells
    obtain ⟨q0, q1, q2, q3, q36⟩ := E2.out.cells
    have R1 : Hid _ := E1.out.ref
    have R2 : Hid _ := E2.out.ref
    generalize hX : (oc K N Y V r (.slice a n c)).toArray = X at HM E1 E2 g0 g1 g2 g3 g36 q0 q1 q2 q3 q36 R1 R2 ⊢
    generalize hX2 : (oc K2 N2 Y2 V2 r2 (.slice a2 n2 c2)).toArray = X2 at HM E1 E2 g0 g1 g2 g3 g36 q0 q1 q2 q3 q36 R1 R2 ⊢
    have HX : Hid _ := hX
    have HX2 : Hid _ := hX2
    clear hX hX2
    clear h1 h2 hr hr2
    go_enter Tryd.func19, Tryd.ntmps19
    go_wp2_with (first | ((with_reducible refine at_load 24 ?_); first | (refine wl_loadG (by rfl) rfl rfl Hr.out R1.out ?_; simp only [Act.put, List.setIfInBounds_toArray, List.set_cons_zero, List.set_cons_succ]) | (refine wl_loadG (by rfl) rfl rfl Hr2.out R2.out ?_; simp only [Act.put, List.setIfInBounds_toArray, List.set_cons_zero, List.set_cons_succ])))
    go_ret
    exact ⟨rfl, HM.out.keep⟩
  by_cases hw : V.toList = V2.toList
  case neg =>
    rw [show sm K N Y V r l K2 N2 Y2 V2 r2 l2 = false from by simp [sm, hw]]
    clear hn hk
    have A1 : Hid (At w a n l) := h1
    have A2 : Hid (At w a2 n2 l2) := h2
    have Hr : Hid (r.length = 32) := hr
    have Hr2 : Hid (r2.length = 32) := hr2
    have hgd := guard_id
    have HM : Hid (M (fun _ => False) w _ [blk w.heap.size (.cells (oc K N Y V r (.slice a n c)).toArray 27), blk (w.heap.size + 1) (.cells (oc K2 N2 Y2 V2 r2 (.slice a2 n2 c2)).toArray 27)]) := ((M.start _ w).alloc (.cells (oc K N Y V r (.slice a n c)).toArray 27) rfl).alloc (.cells (oc K2 N2 Y2 V2 r2 (.slice a2 n2 c2)).toArray 27) (by simp)
    have E1 : Hid _ := o_at HM.out 0 rfl hr
    have E2 : Hid _ := o_at HM.out 1 rfl hr2
    obtain ⟨g0, g1, g2, g3, g36⟩ := E1.out.cells
    obtain ⟨q0, q1, q2, q3, q36⟩ := E2.out.cells
    have R1 : Hid _ := E1.out.ref
    have R2 : Hid _ := E2.out.ref
    generalize hX : (oc K N Y V r (.slice a n c)).toArray = X at HM E1 E2 g0 g1 g2 g3 g36 q0 q1 q2 q3 q36 R1 R2 ⊢
    generalize hX2 : (oc K2 N2 Y2 V2 r2 (.slice a2 n2 c2)).toArray = X2 at HM E1 E2 g0 g1 g2 g3 g36 q0 q1 q2 q3 q36 R1 R2 ⊢
    have HX : Hid _ := hX
    have HX2 : Hid _ := hX2
    clear hX hX2
    clear h1 h2 hr hr2
    go_enter Tryd.func19, Tryd.ntmps19
    go_wp2_with (first | ((with_reducible refine at_load 24 ?_); first | (refine wl_loadG (by rfl) rfl rfl Hr.out R1.out ?_; simp only [Act.put, List.setIfInBounds_toArray, List.set_cons_zero, List.set_cons_succ]) | (refine wl_loadG (by rfl) rfl rfl Hr2.out R2.out ?_; simp only [Act.put, List.setIfInBounds_toArray, List.set_cons_zero, List.set_cons_succ])))
    go_ret
    exact ⟨rfl, HM.out.keep⟩
  by_cases hrr : r = r2
  case neg =>
    have r1 : (r == r2) = false := by simpa using hrr
    rw [show sm K N Y V r l K2 N2 Y2 V2 r2 l2 = false from by simp [sm, r1]]
    have hcmp1 : ∀ w, Sem.run Tryd.prog (binOp .neq 24 (idv r) (idv r2)) w = .ok (.bool true) w := fun w => by rw [neq_id w r r2 hr hr2, r1]; rfl
    have hcmp2 : ∀ w, Sem.run Tryd.prog (binOp .eql 24 (idv r) (idv r2)) w = .ok (.bool false) w := fun w => by rw [eql_id w r r2 hr hr2, r1]
    clear hn hk hrr r1
    have A1 : Hid (At w a n l) := h1
    have A2 : Hid (At w a2 n2 l2) := h2
    have Hr : Hid (r.length = 32) := hr
    have Hr2 : Hid (r2.length = 32) := hr2
    have hgd := guard_id
    have HM : Hid (M (fun _ => False) w _ [blk w.heap.size (.cells (oc K N Y V r (.slice a n c)).toArray 27), blk (w.heap.size + 1) (.cells (oc K2 N2 Y2 V2 r2 (.slice a2 n2 c2)).toArray 27)]) := ((M.start _ w).alloc (.cells (oc K N Y V r (.slice a n c)).toArray 27) rfl).alloc (.cells (oc K2 N2 Y2 V2 r2 (.slice a2 n2 c2)).toArray 27) (by simp)
    have E1 : Hid _ := o_at HM.out 0 rfl hr
    have E2 : Hid _ := o_at HM.out 1 rfl hr2
    obtain ⟨g0, g1, g2, g3, g36⟩ := E1.out.cells
    obtain ⟨q0, q1, q2, q3, q36⟩ := E2.out.cells
    have R1 : Hid _ := E1.out.ref
    have R2 : Hid _ := E2.out.ref
    generalize hX : (oc K N Y V r (.slice a n c)).toArray = X at HM E1 E2 g0 g1 g2 g3 g36 q0 q1 q2 q3 q36 R1 R2 ⊢
    generalize hX2 : (oc K2 N2 Y2 V2 r2 (.slice a2 n2 c2)).toArray = X2 at HM E1 E2 g0 g1 g2 g3 g36 q0 q1 q2 q3 q36 R1 R2 ⊢
    have HX : Hid _ := hX
    have HX2 : Hid _ := hX2
    clear hX hX2
    clear h1 h2 hr hr2
    go_enter Tryd.func19, Tryd.ntmps19
    go_wp2_with (first | ((with_reducible refine at_load 24 ?_); first | (refine wl_loadG (by rfl) rfl rfl Hr.out R1.out ?_; simp only [Act.put, List.setIfInBounds_toArray, List.set_cons_zero, List.set_cons_succ]) | (refine wl_loadG (by rfl) rfl rfl Hr2.out R2.out ?_; simp only [Act.put, List.setIfInBounds_toArray, List.set_cons_zero, List.set_cons_succ])))
    go_ret
    exact ⟨rfl, HM.out.keep⟩
  have r1 : (r == r2) = true := by simpa using hrr
  have hcmp1 : ∀ w, Sem.run Tryd.prog (binOp .neq 24 (idv r) (idv r2)) w = .ok (.bool false) w := fun w => by rw [neq_id w r r2 hr hr2, r1]; rfl
  have hcmp2 : ∀ w, Sem.run Tryd.prog (binOp .eql 24 (idv r) (idv r2)) w = .ok (.bool true) w := fun w => by rw [eql_id w r r2 hr hr2, r1]
  rw [show sm K N Y V r l K2 N2 Y2 V2 r2 l2 = decide (l = l2) from by simp [sm, k1, n1, hy, hw, r1]]
  clear hn hk hrr r1
  have hm1 := h1.most
  have hm2 := h2.most
  unfold maxLen at hm1 hm2
  by_cases hl : n = n2
  case neg =>
    have hne : decide (l = l2) = false := decide_eq_false (fun e => hl (by rw [← h1.len, ← h2.len, e]))
    rw [hne]
    clear hne
    have A1 : Hid (At w a n l) := h1
    have A2 : Hid (At w a2 n2 l2) := h2
    have Hr : Hid (r.length = 32) := hr
    have Hr2 : Hid (r2.length = 32) := hr2
    have hgd := guard_id
    have HM : Hid (M (fun _ => False) w _ [blk w.heap.size (.cells (oc K N Y V r (.slice a n c)).toArray 27), blk (w.heap.size + 1) (.cells (oc K2 N2 Y2 V2 r2 (.slice a2 n2 c2)).toArray 27)]) := ((M.start _ w).alloc (.cells (oc K N Y V r (.slice a n c)).toArray 27) rfl).alloc (.cells (oc K2 N2 Y2 V2 r2 (.slice a2 n2 c2)).toArray 27) (by simp)
    have E1 : Hid _ := o_at HM.out 0 rfl hr
    have E2 : Hid _ := o_at HM.out 1 rfl hr2
    obtain ⟨g0, g1, g2, g3, g36⟩ := E1.out.cells
    obtain ⟨q0, q1, q2, q3, q36⟩ := E2.out.cells
    have R1 : Hid _ := E1.out.ref
    have R2 : Hid _ := E2.out.ref
    generalize hX : (oc K N Y V r (.slice a n c)).toArray = X at HM E1 E2 g0 g1 g2 g3 g36 q0 q1 q2 q3 q36 R1 R2 ⊢
    generalize hX2 : (oc K2 N2 Y2 V2 r2 (.slice a2 n2 c2)).toArray = X2 at HM E1 E2 g0 g1 g2 g3 g36 q0 q1 q2 q3 q36 R1 R2 ⊢
    have HX : Hid _ := hX
    have HX2 : Hid _ := hX2
    clear hX hX2
    clear h1 h2 hr hr2
    go_enter Tryd.func19, Tryd.ntmps19
    go_wp2_with (first | ((with_reducible refine at_load 24 ?_); first | (refine wl_loadG (by rfl) rfl rfl Hr.out R1.out ?_; simp only [Act.put, List.setIfInBounds_toArray, List.set_cons_zero, List.set_cons_succ]) | (refine wl_loadG (by rfl) rfl rfl Hr2.out R2.out ?_; simp only [Act.put, List.setIfInBounds_toArray, List.set_cons_zero, List.set_cons_succ])))
    go_ret
    exact ⟨rfl, HM.out.keep⟩
  subst hl
  have Hm : Hid ((l.take n = l2.take n) → l = l2) := fun e => by
    rwa [List.take_of_length_le (by rw [h1.len]; exact Nat.le_refl _), List.take_of_length_le (by rw [h2.len]; exact Nat.le_refl _)] at e
  have A1 : Hid (At w a n l) := h1
  have A2 : Hid (At w a2 n l2) := h2
  have Hr : Hid (r.length = 32) := hr
  have Hr2 : Hid (r2.length = 32) := hr2
  have hgd := guard_id
  have HM : Hid (M (fun _ => False) w _ [blk w.heap.size (.cells (oc K N Y V r (.slice a n c)).toArray 27), blk (w.heap.size + 1) (.cells (oc K2 N2 Y2 V2 r2 (.slice a2 n c2)).toArray 27)]) := ((M.start _ w).alloc (.cells (oc K N Y V r (.slice a n c)).toArray 27) rfl).alloc (.cells (oc K2 N2 Y2 V2 r2 (.slice a2 n c2)).toArray 27) (by simp)
  have E1 : Hid _ := o_at HM.out 0 rfl hr
  have E2 : Hid _ := o_at HM.out 1 rfl hr2
  obtain ⟨g0, g1, g2, g3, g36⟩ := E1.out.cells
  obtain ⟨q0, q1, q2, q3, q36⟩ := E2.out.cells
  have R1 : Hid _ := E1.out.ref
  have R2 : Hid _ := E2.out.ref
  generalize hX : (oc K N Y V r (.slice a n c)).toArray = X at HM E1 E2 g0 g1 g2 g3 g36 q0 q1 q2 q3 q36 R1 R2 ⊢
  generalize hX2 : (oc K2 N2 Y2 V2 r2 (.slice a2 n c2)).toArray = X2 at HM E1 E2 g0 g1 g2 g3 g36 q0 q1 q2 q3 q36 R1 R2 ⊢
  have HX : Hid _ := hX
  have HX2 : Hid _ := hX2
  clear hX hX2
  clear h1 h2 hr hr2
  go_enter Tryd.func19, Tryd.ntmps19
  go_wp2_with (first | ((with_reducible refine at_load 24 ?_); first | (refine wl_loadG (by rfl) rfl rfl Hr.out R1.out ?_; simp only [Act.put, List.setIfInBounds_toArray, List.set_cons_zero, List.set_cons_succ]) | (refine wl_loadG (by rfl) rfl rfl Hr2.out R2.out ?_; simp only [Act.put, List.setIfInBounds_toArray, List.set_cons_zero, List.set_cons_succ])))
  clear hcmp1 hcmp2
  go_loopw [52, 5, 6] (fun i _ _ wr => ∃ k : Nat, k ≤ n ∧ i = .int .i64 k ∧ M (fun _ => False) w wr [blk w.heap.size (.cells X 27), blk (w.heap.size + 1) (.cells X2 27)] ∧ l.take k = l2.take k) (fun i _ _ _ => n - (intOf i).toNat)
  case atStart => exact ⟨0, Nat.zero_le _, rfl, HM.out, rfl⟩
  case round =>
    obtain ⟨k, hk, rfl, hM, hm⟩ := hrel
    have HM : Hid _ := hM
    have HT : Hid _ := hm
    clear hM hm
    by_cases hlt : k < n
    · obtain ⟨x, hx⟩ : ∃ x, l[k]? = some x := ⟨_, List.getElem?_eq_getElem (by rw [A1.out.len]; omega)⟩
      obtain ⟨y, hy⟩ : ∃ y, l2[k]? = some y := ⟨_, List.getElem?_eq_getElem (by rw [A2.out.len]; omega)⟩
      obtain ⟨g1, o1, rfl, hb1, hr1⟩ : ∃ b off, a = some ⟨b, off, none⟩ ∧ b < w.heap.size ∧ ∀ i x, l[i]? = some x → w.rangeAt b (off + i * 32) (x.map bv) := by rcases A1.out.lay with e | e; omega; exact e
      obtain ⟨g2, o2, rfl, hb2, hr2⟩ : ∃ b off, a2 = some ⟨b, off, none⟩ ∧ b < w.heap.size ∧ ∀ i x, l2[i]? = some x → w.rangeAt b (off + i * 32) (x.map bv) := by rcases A2.out.lay with e | e; omega; exact e
      have R1 : Hid _ := HM.out.keep.range hb1 (fun h => h) (hr1 k x hx)
      have R2 : Hid _ := (HM.out.keep.alloc (.cells (x.map bv).toArray 24)).drew.range hb2 (fun h => h) (hr2 k y hy)
      have lx := A1.out.size x (List.mem_of_getElem? hx)
      have ly := A2.out.size y (List.mem_of_getElem? hy)
      have hcmp : ∀ w, Sem.run Tryd.prog (binOp .neq 24 (idv x) (idv y)) w = .ok (.bool (!(x == y))) w := fun w => neq_id w x y lx ly
      have Lx : Hid (x.length = 32) := lx
      have Ly : Hid (y.length = 32) := ly
      have Hx : Hid _ := hx
      have Hy : Hid _ := hy
      clear hr1 hr2 hx hy lx ly
      by_cases he : x = y
      · have HE : Hid _ := he
        have heb : (x == y) = true := by simpa using he
        rw [heb] at hcmp
        clear he heb
        go_wp2_with (first | (refine Ids.wl_load rfl rfl rfl Lx.out R1.out ?_; simp only [Act.put, List.setIfInBounds_toArray, List.set_cons_zero, List.set_cons_succ]) | (refine wl_store_new rfl rfl rfl rfl rfl Lx.out rfl ?_))
        have HM : Hid _ := HM.out.alloc (.cells (x.map bv).toArray 24) rfl
        have E2 : Hid (OAt _ (w.heap.size + 1) K2 N2 Y2 V2 r2 (.slice (some ⟨g2, o2, none⟩) n c2)) := ⟨by rw [HX2.out]; exact HM.out.get 1 rfl, Hr2.out⟩
        have q36 := E2.out.cells.2.2.2.2
        refine Txt.wp_region_text (fun _ => True) [1, 0, 1, 0, 0, 1, 0] (by kernel_rfl) (by kernel_rfl) trivial ?_
        (repeat (first | (refine Txt.tl_pure (v := ?_) (by rfl) ?_ ?_; rotate_left; (focus (intro _; go_simp; try with_reducible rfl)); simp only [Act.put, List.setIfInBounds_toArray, List.set_cons_zero, List.set_cons_succ]) | (refine Txt.tl_skip (by rfl) (by first | trivial | exact HS.out) ?_; simp only [Act.put, List.setIfInBounds_toArray, List.set_cons_zero, List.set_cons_succ]) | (refine Txt.tl_load (v := ?_) (by rfl) (by rfl) (by rfl) (by kernel_rfl) ?_ ?_; rotate_left; (focus (first | assumption | (go_simp; done) | (go_simp; with_reducible rfl))); simp only [Act.put, List.setIfInBounds_toArray, List.set_cons_zero, List.set_cons_succ]) | (refine Txt.tl_loadB (v := ?_) (by rfl) (by rfl) (by rfl) (by kernel_rfl) ?_ ?_; rotate_left; (focus assumption); simp only [Act.put, List.setIfInBounds_toArray, List.set_cons_zero, List.set_cons_succ])))
        refine Txt.tl_rowN (n := 32) (by rfl) (by rfl) (by rfl) (HM.out.range 2 rfl) (by kernel_rfl) (by rw [List.length_map]; exact Lx.out) ?_
        simp only [Act.put, List.setIfInBounds_toArray, List.set_cons_zero, List.set_cons_succ]
        (repeat (first | (refine Txt.tl_pure (v := ?_) (by rfl) ?_ ?_; rotate_left; (focus (intro _; go_simp; try with_reducible rfl)); simp only [Act.put, List.setIfInBounds_toArray, List.set_cons_zero, List.set_cons_succ]) | (refine Txt.tl_skip (by rfl) (by first | trivial | exact HS.out) ?_; simp only [Act.put, List.setIfInBounds_toArray, List.set_cons_zero, List.set_cons_succ]) | (refine Txt.tl_load (v := ?_) (by rfl) (by rfl) (by rfl) (by kernel_rfl) ?_ ?_; rotate_left; (focus (first | assumption | (go_simp; done) | (go_simp; with_reducible rfl))); simp only [Act.put, List.setIfInBounds_toArray, List.set_cons_zero, List.set_cons_succ]) | (refine Txt.tl_loadB (v := ?_) (by rfl) (by rfl) (by rfl) (by kernel_rfl) ?_ ?_; rotate_left; (focus assumption); simp only [Act.put, List.setIfInBounds_toArray, List.set_cons_zero, List.set_cons_succ])))
        refine Txt.tl_rowN (n := 32) (by rfl) (by rfl) (by rfl) R2.out (by kernel_rfl) (by rw [List.length_map]; exact Ly.out) ?_
        simp only [Act.put, List.setIfInBounds_toArray, List.set_cons_zero, List.set_cons_succ]
        (repeat (first | (refine Txt.tl_pure (v := ?_) (by rfl) ?_ ?_; rotate_left; (focus (intro _; go_simp; try with_reducible rfl)); simp only [Act.put, List.setIfInBounds_toArray, List.set_cons_zero, List.set_cons_succ]) | (refine Txt.tl_skip (by rfl) (by first | trivial | exact HS.out) ?_; simp only [Act.put, List.setIfInBounds_toArray, List.set_cons_zero, List.set_cons_succ]) | (refine Txt.tl_load (v := ?_) (by rfl) (by rfl) (by rfl) (by kernel_rfl) ?_ ?_; rotate_left; (focus (first | assumption | (go_simp; done) | (go_simp; with_reducible rfl))); simp only [Act.put, List.setIfInBounds_toArray, List.set_cons_zero, List.set_cons_succ]) | (refine Txt.tl_loadB (v := ?_) (by rfl) (by rfl) (by rfl) (by kernel_rfl) ?_ ?_; rotate_left; (focus assumption); simp only [Act.put, List.setIfInBounds_toArray, List.set_cons_zero, List.set_cons_succ])))
        refine Txt.tl_nil ?_
        go_wp2
        go_roundw
        case rel => exact ⟨k + 1, by omega, rfl, (HM.out.take 2).drew, take_step l l2 k x y Hx.out Hy.out HT.out HE.out⟩
        case measure => simp [intOf]; omega
      · have HE : Hid _ := he
        have heb : (x == y) = false := by simpa using he
        rw [heb] at hcmp
        clear he heb
        go_wp2_with (first | (refine Ids.wl_load rfl rfl rfl Lx.out R1.out ?_; simp only [Act.put, List.setIfInBounds_toArray, List.set_cons_zero, List.set_cons_succ]) | (refine wl_store_new rfl rfl rfl rfl rfl Lx.out rfl ?_))
        have HM : Hid _ := HM.out.alloc (.cells (x.map bv).toArray 24) rfl
        have E2 : Hid (OAt _ (w.heap.size + 1) K2 N2 Y2 V2 r2 (.slice (some ⟨g2, o2, none⟩) n c2)) := ⟨by rw [HX2.out]; exact HM.out.get 1 rfl, Hr2.out⟩
        have q36 := E2.out.cells.2.2.2.2
        refine Txt.wp_region_text (fun _ => True) [1, 0, 1, 0, 0, 1, 0] (by kernel_rfl) (by kernel_rfl) trivial ?_
        (repeat (first | (refine Txt.tl_pure (v := ?_) (by rfl) ?_ ?_; rotate_left; (focus (intro _; go_simp; try with_reducible rfl)); simp only [Act.put, List.setIfInBounds_toArray, List.set_cons_zero, List.set_cons_succ]) | (refine Txt.tl_skip (by rfl) (by first | trivial | exact HS.out) ?_; simp only [Act.put, List.setIfInBounds_toArray, List.set_cons_zero, List.set_cons_succ]) | (refine Txt.tl_load (v := ?_) (by rfl) (by rfl) (by rfl) (by kernel_rfl) ?_ ?_; rotate_left; (focus (first | assumption | (go_simp; done) | (go_simp; with_reducible rfl))); simp only [Act.put, List.setIfInBounds_toArray, List.set_cons_zero, List.set_cons_succ]) | (refine Txt.tl_loadB (v := ?_) (by rfl) (by rfl) (by rfl) (by kernel_rfl) ?_ ?_; rotate_left; (focus assumption); simp only [Act.put, List.setIfInBounds_toArray, List.set_cons_zero, List.set_cons_succ])))
        refine Txt.tl_rowN (n := 32) (by rfl) (by rfl) (by rfl) (HM.out.range 2 rfl) (by kernel_rfl) (by rw [List.length_map]; exact Lx.out) ?_
        simp only [Act.put, List.setIfInBounds_toArray, List.set_cons_zero, List.set_cons_succ]
        (repeat (first | (refine Txt.tl_pure (v := ?_) (by rfl) ?_ ?_; rotate_left; (focus (intro _; go_simp; try with_reducible rfl)); simp only [Act.put, List.setIfInBounds_toArray, List.set_cons_zero, List.set_cons_succ]) | (refine Txt.tl_skip (by rfl) (by first | trivial | exact HS.out) ?_; simp only [Act.put, List.setIfInBounds_toArray, List.set_cons_zero, List.set_cons_succ]) | (refine Txt.tl_load (v := ?_) (by rfl) (by rfl) (by rfl) (by kernel_rfl) ?_ ?_; rotate_left; (focus (first | assumption | (go_simp; done) | (go_simp; with_reducible rfl))); simp only [Act.put, List.setIfInBounds_toArray, List.set_cons_zero, List.set_cons_succ]) | (refine Txt.tl_loadB (v := ?_) (by rfl) (by rfl) (by rfl) (by kernel_rfl) ?_ ?_; rotate_left; (focus assumption); simp only [Act.put, List.setIfInBounds_toArray, List.set_cons_zero, List.set_cons_succ])))
        refine Txt.tl_rowN (n := 32) (by rfl) (by rfl) (by rfl) R2.out (by kernel_rfl) (by rw [List.length_map]; exact Ly.out) ?_
        simp only [Act.put, List.setIfInBounds_toArray, List.set_cons_zero, List.set_cons_succ]
        (repeat (first | (refine Txt.tl_pure (v := ?_) (by rfl) ?_ ?_; rotate_left; (focus (intro _; go_simp; try with_reducible rfl)); simp only [Act.put, List.setIfInBounds_toArray, List.set_cons_zero, List.set_cons_succ]) | (refine Txt.tl_skip (by rfl) (by first | trivial | exact HS.out) ?_; simp only [Act.put, List.setIfInBounds_toArray, List.set_cons_zero, List.set_cons_succ]) | (refine Txt.tl_load (v := ?_) (by rfl) (by rfl) (by rfl) (by kernel_rfl) ?_ ?_; rotate_left; (focus (first | assumption | (go_simp; done) | (go_simp; with_reducible rfl))); simp only [Act.put, List.setIfInBounds_toArray, List.set_cons_zero, List.set_cons_succ]) | (refine Txt.tl_loadB (v := ?_) (by rfl) (by rfl) (by rfl) (by kernel_rfl) ?_ ?_; rotate_left; (focus assumption); simp only [Act.put, List.setIfInBounds_toArray, List.set_cons_zero, List.set_cons_succ])))
        refine Txt.tl_nil ?_
        go_wp2
        go_ret
        exact ⟨by rw [decide_eq_false (take_ne l l2 k x y Hx.out Hy.out HE.out)]; rfl, HM.out.keep.drew⟩
    · obtain rfl : k = n := by omega
      have e : decide (l = l2) = true := decide_eq_true (Hm.out HT.out)
      go_wp2
      go_ret
      exact ⟨by rw [e]; rfl, HM.out.keep⟩
end Ox
end Go.Proofs.YtfoplimdbapdfaaDoor
