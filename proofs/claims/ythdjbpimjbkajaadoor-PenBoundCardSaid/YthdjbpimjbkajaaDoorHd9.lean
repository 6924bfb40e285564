/-
  header.Same, petrelref08.Same.
-/
import Derived.Test.YthdjbpimjbkajaaDoorHd3
import Derived.Test.YthdjbpimjbkajaaDoorGTx
import Derived.Test.YthdjbpimjbkajaaDoorGOp
set_option linter.unusedVariables false
set_option linter.unusedSimpArgs false
namespace Go.Proofs.YthdjbpimjbkajaaDoor
open Go.RowKit
namespace Hd
open Oct Ids Gn
open Mem (M blk)

/-- Are two headers the same? -/
def smh (l : List (List UInt8)) (G : Int) (T : ByteArray) (A Q Z : Int) (m : List UInt8) (l2 : List (List UInt8)) (G2 : Int) (T2 : ByteArray) (B2 Q2 Z2 : Int) (m2 : List UInt8) : Bool := (G == G2 && (T.toList == T2.toList && (A == B2 && (Q == Q2 && (Z == Z2 && (m == m2 && decide (l = l2)))))))
set_option maxRecDepth 100000 in
set_option maxHeartbeats 4000000 in
theorem rsame_h (w : World) (a a2 : Option Addr) (n c n2 c2 : Nat) (l l2 : List (List UInt8)) (G G2 : Int) (T T2 : ByteArray) (A B2 Q Q2 Z Z2 : Int) (m m2 : List UInt8) (hm : m.length = 32) (hm2 : m2.length = 32) (h1 : At w a n l) (h2 : At w a2 n2 l2) (v : Bool) (hv : smh l G T A Q Z m l2 G2 T2 B2 Q2 Z2 m2 = v) :
    Calls Tryd.prog 19 #[.agg (hd (.slice a n c) G T A Q Z m).toArray, .agg (hd (.slice a2 n2 c2) G2 T2 B2 Q2 Z2 m2).toArray] w fun e w' => e = .returned (.bool v) ∧ Keep (fun _ => False) w w' := by
  subst hv
  by_cases el : l = l2
  case neg =>
    have HD : Hid (decide (l = l2) = false) := decide_eq_false el
    rw [show smh l G T A Q Z m l2 G2 T2 B2 Q2 Z2 m2 = false from by simp [smh, el]]
    clear el
    have A1 : Hid (At w a n l) := h1
    have A2 : Hid (At w a2 n2 l2) := h2
    have Hr : Hid (m.length = 32) := hm
    have Hr2 : Hid (m2.length = 32) := hm2
    have hgd := guard_id
    have HM : Hid (M (fun _ => False) w _ [blk w.heap.size (.cells (hd (.slice a n c) G T A Q Z m).toArray 29), blk (w.heap.size + 1) (.cells (hd (.slice a2 n2 c2) G2 T2 B2 Q2 Z2 m2).toArray 29)]) := ((M.start _ w).alloc (.cells (hd (.slice a n c) G T A Q Z m).toArray 29) rfl).alloc (.cells (hd (.slice a2 n2 c2) G2 T2 B2 Q2 Z2 m2).toArray 29) (by simp)
    have E1 : Hid _ := h_at HM.out 0 rfl rfl hm
    have E2 : Hid _ := h_at HM.out 1 rfl rfl hm2
    obtain ⟨g0, g1, g2, g3, g4, g5⟩ := E1.out.cells
    obtain ⟨q0, q1, q2, q3, q4, q5⟩ := E2.out.cells
    have R1 : Hid _ := E1.out.commit
    have R2 : Hid _ := E2.out.commit
    generalize hX : (hd (.slice a n c) G T A Q Z m).toArray = X at HM E1 E2 g0 g1 g2 g3 g4 g5 q0 q1 q2 q3 q4 q5 R1 R2 ⊢
    generalize hX2 : (hd (.slice a2 n2 c2) G2 T2 B2 Q2 Z2 m2).toArray = X2 at HM E1 E2 g0 g1 g2 g3 g4 g5 q0 q1 q2 q3 q4 q5 R1 R2 ⊢
    have HX : Hid _ := hX
    have HX2 : Hid _ := hX2
    clear hX hX2
    clear h1 h2 hm hm2
    go_enter Tryd.func19, Tryd.ntmps19
    go_wp2_with (first | ((with_reducible refine at_load 23 ?_); first | (refine wl_loadG (by rfl) rfl rfl Hr.out R1.out ?_; simp only [Act.put, List.setIfInBounds_toArray, List.set_cons_zero, List.set_cons_succ]) | (refine wl_loadG (by rfl) rfl rfl Hr2.out R2.out ?_; simp only [Act.put, List.setIfInBounds_toArray, List.set_cons_zero, List.set_cons_succ])) | (go_at_call 45; refine (same_any _ a a2 n n2 c c2 l l2 (A1.out.calm HM.out.keep) (A2.out.calm HM.out.keep)).mono ?_; rw [HD.out]; rintro e w3 ⟨rfl, h3⟩; have HM : Hid _ := HM.out.calm h3; clear h3; have E1 : Hid _ := h_at HM.out 0 rfl HX.out Hr.out; have E2 : Hid _ := h_at HM.out 1 rfl HX2.out Hr2.out; obtain ⟨g0, g1, g2, g3, g4, g5⟩ := E1.out.cells; obtain ⟨q0, q1, q2, q3, q4, q5⟩ := E2.out.cells; have R1 : Hid _ := E1.out.commit; have R2 : Hid _ := E2.out.commit))
    go_ret
    exact ⟨rfl, HM.out.keep⟩
  have HD : Hid (decide (l = l2) = true) := decide_eq_true el
  clear el
  by_cases eG : G = G2
  case neg =>
    have x1 : (G == G2) = false := by simpa using eG
    have x2 : (G != G2) = true := by simpa using eG
    rw [show smh l G T A Q Z m l2 G2 T2 B2 Q2 Z2 m2 = false from by simp [smh, x1]]
    clear eG
    have A1 : Hid (At w a n l) := h1
    have A2 : Hid (At w a2 n2 l2) := h2
    have Hr : Hid (m.length = 32) := hm
    have Hr2 : Hid (m2.length = 32) := hm2
    have hgd := guard_id
    have HM : Hid (M (fun _ => False) w _ [blk w.heap.size (.cells (hd (.slice a n c) G T A Q Z m).toArray 29), blk (w.heap.size + 1) (.cells (hd (.slice a2 n2 c2) G2 T2 B2 Q2 Z2 m2).toArray 29)]) := ((M.start _ w).alloc (.cells (hd (.slice a n c) G T A Q Z m).toArray 29) rfl).alloc (.cells (hd (.slice a2 n2 c2) G2 T2 B2 Q2 Z2 m2).toArray 29) (by simp)
    have E1 : Hid _ := h_at HM.out 0 rfl rfl hm
    have E2 : Hid _ := h_at HM.out 1 rfl rfl hm2
    obtain ⟨g0, g1, g2, g3, g4, g5⟩ := E1.out.cells
    obtain ⟨q0, q1, q2, q3, q4, q5⟩ := E2.out.cells
    have R1 : Hid _ := E1.out.commit
    have R2 : Hid _ := E2.out.commit
    generalize hX : (hd (.slice a n c) G T A Q Z m).toArray = X at HM E1 E2 g0 g1 g2 g3 g4 g5 q0 q1 q2 q3 q4 q5 R1 R2 ⊢
    generalize hX2 : (hd (.slice a2 n2 c2) G2 T2 B2 Q2 Z2 m2).toArray = X2 at HM E1 E2 g0 g1 g2 g3 g4 g5 q0 q1 q2 q3 q4 q5 R1 R2 ⊢
    have HX : Hid _ := hX
    have HX2 : Hid _ := hX2
    clear hX hX2
    clear h1 h2 hm hm2
    go_enter Tryd.func19, Tryd.ntmps19
    go_wp2_with (first | ((with_reducible refine at_load 23 ?_); first | (refine wl_loadG (by rfl) rfl rfl Hr.out R1.out ?_; simp only [Act.put, List.setIfInBounds_toArray, List.set_cons_zero, List.set_cons_succ]) | (refine wl_loadG (by rfl) rfl rfl Hr2.out R2.out ?_; simp only [Act.put, List.setIfInBounds_toArray, List.set_cons_zero, List.set_cons_succ])) | (go_at_call 45; refine (same_any _ a a2 n n2 c c2 l l2 (A1.out.calm HM.out.keep) (A2.out.calm HM.out.keep)).mono ?_; rw [HD.out]; rintro e w3 ⟨rfl, h3⟩; have HM : Hid _ := HM.out.calm h3; clear h3; have E1 : Hid _ := h_at HM.out 0 rfl HX.out Hr.out; have E2 : Hid _ := h_at HM.out 1 rfl HX2.out Hr2.out; obtain ⟨g0, g1, g2, g3, g4, g5⟩ := E1.out.cells; obtain ⟨q0, q1, q2, q3, q4, q5⟩ := E2.out.cells; have R1 : Hid _ := E1.out.commit; have R2 : Hid _ := E2.out.commit))
    go_ret
    exact ⟨rfl, HM.out.keep⟩
  have x1 : (G == G2) = true := by simpa using eG
  have x2 : (G != G2) = false := by simpa using eG
  by_cases eT : T.toList = T2.toList
  case neg =>
    rw [show smh l G T A Q Z m l2 G2 T2 B2 Q2 Z2 m2 = false from by simp [smh, eT]]
    clear eG
    have A1 : Hid (At w a n l) := h1
    have A2 : Hid (At w a2 n2 l2) := h2
    have Hr : Hid (m.length = 32) := hm
    have Hr2 : Hid (m2.length = 32) := hm2
    have hgd := guard_id
    have HM : Hid (M (fun _ => False) w _ [blk w.heap.size (.cells (hd (.slice a n c) G T A Q Z m).toArray 29), blk (w.heap.size + 1) (.cells (hd (.slice a2 n2 c2) G2 T2 B2 Q2 Z2 m2).toArray 29)]) := ((M.start _ w).alloc (.cells (hd (.slice a n c) G T A Q Z m).toArray 29) rfl).alloc (.cells (hd (.slice a2 n2 c2) G2 T2 B2 Q2 Z2 m2).toArray 29) (by simp)
    have E1 : Hid _ := h_at HM.out 0 rfl rfl hm
    have E2 : Hid _ := h_at HM.out 1 rfl rfl hm2
    obtain ⟨g0, g1, g2, g3, g4, g5⟩ := E1.out.cells
    obtain ⟨q0, q1, q2, q3, q4, q5⟩ := E2.out.cells
    have R1 : Hid _ := E1.out.commit
    have R2 : Hid _ := E2.out.commit
    generalize hX : (hd (.slice a n c) G T A Q Z m).toArray = X at HM E1 E2 g0 g1 g2 g3 g4 g5 q0 q1 q2 q3 q4 q5 R1 R2 ⊢
    generalize hX2 : (hd (.slice a2 n2 c2) G2 T2 B2 Q2 Z2 m2).toArray = X2 at HM E1 E2 g0 g1 g2 g3 g4 g5 q0 q1 q2 q3 q4 q5 R1 R2 ⊢
    have HX : Hid _ := hX
    have HX2 : Hid _ := hX2
    clear hX hX2
    clear h1 h2 hm hm2
    go_enter Tryd.func19, Tryd.ntmps19
    go_wp2_with (first | ((with_reducible refine at_load 23 ?_); first | (refine wl_loadG (by rfl) rfl rfl Hr.out R1.out ?_; simp only [Act.put, List.setIfInBounds_toArray, List.set_cons_zero, List.set_cons_succ]) | (refine wl_loadG (by rfl) rfl rfl Hr2.out R2.out ?_; simp only [Act.put, List.setIfInBounds_toArray, List.set_cons_zero, List.set_cons_succ])) | (go_at_call 45; refine (same_any _ a a2 n n2 c c2 l l2 (A1.out.calm HM.out.keep) (A2.out.calm HM.out.keep)).mono ?_; rw [HD.out]; rintro e w3 ⟨rfl, h3⟩; have HM : Hid _ := HM.out.calm h3; clear h3; have E1 : Hid _ := h_at HM.out 0 rfl HX.out Hr.out; have E2 : Hid _ := h_at HM.out 1 rfl HX2.out Hr2.out; obtain ⟨g0, g1, g2, g3, g4, g5⟩ := E1.out.cells; obtain ⟨q0, q1, q2, q3, q4, q5⟩ := E2.out.cells; have R1 : Hid _ := E1.out.commit; have R2 : Hid _ := E2.out.commit))
    go_ret
    exact ⟨rfl, HM.out.keep⟩
  by_cases eA : A = B2
  case neg =>
    have x3 : (A == B2) = false := by simpa using eA
    have x4 : (A != B2) = true := by simpa using eA
    rw [show smh l G T A Q Z m l2 G2 T2 B2 Q2 Z2 m2 = false from by simp [smh, x3]]
    clear eG eA
    have A1 : Hid (At w a n l) := h1
    have A2 : Hid (At w a2 n2 l2) := h2
    have Hr : Hid (m.length = 32) := hm
    have Hr2 : Hid (m2.length = 32) := hm2
    have hgd := guard_id
    have HM : Hid (M (fun _ => False) w _ [blk w.heap.size (.cells (hd (.slice a n c) G T A Q Z m).toArray 29), blk (w.heap.size + 1) (.cells (hd (.slice a2 n2 c2) G2 T2 B2 Q2 Z2 m2).toArray 29)]) := ((M.start _ w).alloc (.cells (hd (.slice a n c) G T A Q Z m).toArray 29) rfl).alloc (.cells (hd (.slice a2 n2 c2) G2 T2 B2 Q2 Z2 m2).toArray 29) (by simp)
    have E1 : Hid _ := h_at HM.out 0 rfl rfl hm
    have E2 : Hid _ := h_at HM.out 1 rfl rfl hm2
    obtain ⟨g0, g1, g2, g3, g4, g5⟩ := E1.out.cells
    obtain ⟨q0, q1, q2, q3, q4, q5⟩ := E2.out.cells
    have R1 : Hid _ := E1.out.commit
    have R2 : Hid _ := E2.out.commit
    generalize hX : (hd (.slice a n c) G T A Q Z m).toArray = X at HM E1 E2 g0 g1 g2 g3 g4 g5 q0 q1 q2 q3 q4 q5 R1 R2 ⊢
    generalize hX2 : (hd (.slice a2 n2 c2) G2 T2 B2 Q2 Z2 m2).toArray = X2 at HM E1 E2 g0 g1 g2 g3 g4 g5 q0 q1 q2 q3 q4 q5 R1 R2 ⊢
    have HX : Hid _ := hX
    have HX2 : Hid _ := hX2
    clear hX hX2
    clear h1 h2 hm hm2
    go_enter Tryd.func19, Tryd.ntmps19
    go_wp2_with (first | ((with_reducible refine at_load 23 ?_); first | (refine wl_loadG (by rfl) rfl rfl Hr.out R1.out ?_; simp only [Act.put, List.setIfInBounds_toArray, List.set_cons_zero, List.set_cons_succ]) | (refine wl_loadG (by rfl) rfl rfl Hr2.out R2.out ?_; simp only [Act.put, List.setIfInBounds_toArray, List.set_cons_zero, List.set_cons_succ])) | (go_at_call 45; refine (same_any _ a a2 n n2 c c2 l l2 (A1.out.calm HM.out.keep) (A2.out.calm HM.out.keep)).mono ?_; rw [HD.out]; rintro e w3 ⟨rfl, h3⟩; have HM : Hid _ := HM.out.calm h3; clear h3; have E1 : Hid _ := h_at HM.out 0 rfl HX.out Hr.out; have E2 : Hid _ := h_at HM.out 1 rfl HX2.out Hr2.out; obtain ⟨g0, g1, g2, g3, g4, g5⟩ := E1.out.cells; obtain ⟨q0, q1, q2, q3, q4, q5⟩ := E2.out.cells; have R1 : Hid _ := E1.out.commit; have R2 : Hid _ := E2.out.commit))
    go_ret
    exact ⟨rfl, HM.out.keep⟩
  have x3 : (A == B2) = true := by simpa using eA
  have x4 : (A != B2) = false := by simpa using eA
  by_cases eQ : Q = Q2
  case neg =>
    have x5 : (Q == Q2) = false := by simpa using eQ
    have x6 : (Q != Q2) = true := by simpa using eQ
    rw [show smh l G T A Q Z m l2 G2 T2 B2 Q2 Z2 m2 = false from by simp [smh, x5]]
    clear eG eA eQ
    have A1 : Hid (At w a n l) := h1
    have A2 : Hid (At w a2 n2 l2) := h2
    have Hr : Hid (m.length = 32) := hm
    have Hr2 : Hid (m2.length = 32) := hm2
    have hgd := guard_id
    have HM : Hid (M (fun _ => False) w _ [blk w.heap.size (.cells (hd (.slice a n c) G T A Q Z m).toArray 29), blk (w.heap.size + 1) (.cells (hd (.slice a2 n2 c2) G2 T2 B2 Q2 Z2 m2).toArray 29)]) := ((M.start _ w).alloc (.cells (hd (.slice a n c) G T A Q Z m).toArray 29) rfl).alloc (.cells (hd (.slice a2 n2 c2) G2 T2 B2 Q2 Z2 m2).toArray 29) (by simp)
    have E1 : Hid _ := h_at HM.out 0 rfl rfl hm
    have E2 : Hid _ := h_at HM.out 1 rfl rfl hm2
    obtain ⟨g0, g1, g2, g3, g4, g5⟩ := E1.out.cells
    obtain ⟨q0, q1, q2, q3, q4, q5⟩ := E2.out.cells
    have R1 : Hid _ := E1.out.commit
    have R2 : Hid _ := E2.out.commit
    generalize hX : (hd (.slice a n c) G T A Q Z m).toArray = X at HM E1 E2 g0 g1 g2 g3 g4 g5 q0 q1 q2 q3 q4 q5 R1 R2 ⊢
    generalize hX2 : (hd (.slice a2 n2 c2) G2 T2 B2 Q2 Z2 m2).toArray = X2 at HM E1 E2 g0 g1 g2 g3 g4 g5 q0 q1 q2 q3 q4 q5 R1 R2 ⊢
    have HX : Hid _ := hX
    have HX2 : Hid _ := hX2
    clear hX hX2
    clear h1 h2 hm hm2
    go_enter Tryd.func19, Tryd.ntmps19
    go_wp2_with (first | ((with_reducible refine at_load 23 ?_); first | (refine wl_loadG (by rfl) rfl rfl Hr.out R1.out ?_; simp only [Act.put, List.setIfInBounds_toArray, List.set_cons_zero, List.set_cons_succ]) | (refine wl_loadG (by rfl) rfl rfl Hr2.out R2.out ?_; simp only [Act.put, List.setIfInBounds_toArray, List.set_cons_zero, List.set_cons_succ])) | (go_at_call 45; refine (same_any _ a a2 n n2 c c2 l l2 (A1.out.calm HM.out.keep) (A2.out.calm HM.out.keep)).mono ?_; rw [HD.out]; rintro e w3 ⟨rfl, h3⟩; have HM : Hid _ := HM.out.calm h3; clear h3; have E1 : Hid _ := h_at HM.out 0 rfl HX.out Hr.out; have E2 : Hid _ := h_at HM.out 1 rfl HX2.out Hr2.out; obtain ⟨g0, g1, g2, g3, g4, g5⟩ := E1.out.cells; obtain ⟨q0, q1, q2, q3, q4, q5⟩ := E2.out.cells; have R1 : Hid _ := E1.out.commit; have R2 : Hid _ := E2.out.commit))
    go_ret
    exact ⟨rfl, HM.out.keep⟩
  have x5 : (Q == Q2) = true := by simpa using eQ
  have x6 : (Q != Q2) = false := by simpa using eQ
  by_cases eZ : Z = Z2
  case neg =>
    have x7 : (Z == Z2) = false := by simpa using eZ
    have x8 : (Z != Z2) = true := by simpa using eZ
    rw [show smh l G T A Q Z m l2 G2 T2 B2 Q2 Z2 m2 = false from by simp [smh, x7]]
    clear eG eA eQ eZ
    have A1 : Hid (At w a n l) := h1
    have A2 : Hid (At w a2 n2 l2) := h2
    have Hr : Hid (m.length = 32) := hm
    have Hr2 : Hid (m2.length = 32) := hm2
    have hgd := guard_id
    have HM : Hid (M (fun _ => False) w _ [blk w.heap.size (.cells (hd (.slice a n c) G T A Q Z m).toArray 29), blk (w.heap.size + 1) (.cells (hd (.slice a2 n2 c2) G2 T2 B2 Q2 Z2 m2).toArray 29)]) := ((M.start _ w).alloc (.cells (hd (.slice a n c) G T A Q Z m).toArray 29) rfl).alloc (.cells (hd (.slice a2 n2 c2) G2 T2 B2 Q2 Z2 m2).toArray 29) (by simp)
    have E1 : Hid _ := h_at HM.out 0 rfl rfl hm
    have E2 : Hid _ := h_at HM.out 1 rfl rfl hm2
    obtain ⟨g0, g1, g2, g3, g4, g5⟩ := E1.out.cells
    obtain ⟨q0, q1, q2, q3, q4, q5⟩ := E2.out.cells
    have R1 : Hid _ := E1.out.commit
    have R2 : Hid _ := E2.out.commit
    generalize hX : (hd (.slice a n c) G T A Q Z m).toArray = X at HM E1 E2 g0 g1 g2 g3 g4 g5 q0 q1 q2 q3 q4 q5 R1 R2 ⊢
    generalize hX2 : (hd (.slice a2 n2 c2) G2 T2 B2 Q2 Z2 m2).toArray = X2 at HM E1 E2 g0 g1 g2 g3 g4 g5 q0 q1 q2 q3 q4 q5 R1 R2 ⊢
    have HX : Hid _ := hX
    have HX2 : Hid _ := hX2
    clear hX hX2
    clear h1 h2 hm hm2
    go_enter Tryd.func19, Tryd.ntmps19
    go_wp2_with (first | ((with_reducible refine at_load 23 ?_); first | (refine wl_loadG (by rfl) rfl rfl Hr.out R1.out ?_; simp only [Act.put, List.setIfInBounds_toArray, List.set_cons_zero, List.set_cons_succ]) | (refine wl_loadG (by rfl) rfl rfl Hr2.out R2.out ?_; simp only [Act.put, List.setIfInBounds_toArray, List.set_cons_zero, List.set_cons_succ])) | (go_at_call 45; refine (same_any _ a a2 n n2 c c2 l l2 (A1.out.calm HM.out.keep) (A2.out.calm HM.out.keep)).mono ?_; rw [HD.out]; rintro e w3 ⟨rfl, h3⟩; have HM : Hid _ := HM.out.calm h3; clear h3; have E1 : Hid _ := h_at HM.out 0 rfl HX.out Hr.out; have E2 : Hid _ := h_at HM.out 1 rfl HX2.out Hr2.out; obtain ⟨g0, g1, g2, g3, g4, g5⟩ := E1.out.cells; obtain ⟨q0, q1, q2, q3, q4, q5⟩ := E2.out.cells; have R1 : Hid _ := E1.out.commit; have R2 : Hid _ := E2.out.commit))
    go_ret
    exact ⟨rfl, HM.out.keep⟩
  have x7 : (Z == Z2) = true := by simpa using eZ
  have x8 : (Z != Z2) = false := by simpa using eZ
  by_cases em : m = m2
  case neg =>
    have r1 : (m == m2) = false := by simpa using em
    rw [show smh l G T A Q Z m l2 G2 T2 B2 Q2 Z2 m2 = false from by simp [smh, r1]]
    have hcmp1 : ∀ w, Sem.run Tryd.prog (binOp .neq 23 (idv m) (idv m2)) w = .ok (.bool true) w := fun w => by rw [neq_id w m m2 hm hm2, r1]; rfl
    have hcmp2 : ∀ w, Sem.run Tryd.prog (binOp .eql 23 (idv m) (idv m2)) w = .ok (.bool false) w := fun w => by rw [eql_id w m m2 hm hm2, r1]
    clear eG eA eQ eZ em r1
    have A1 : Hid (At w a n l) := h1
    have A2 : Hid (At w a2 n2 l2) := h2
    have Hr : Hid (m.length = 32) := hm
    have Hr2 : Hid (m2.length = 32) := hm2
    have hgd := guard_id
    have HM : Hid (M (fun _ => False) w _ [blk w.heap.size (.cells (hd (.slice a n c) G T A Q Z m).toArray 29), blk (w.heap.size + 1) (.cells (hd (.slice a2 n2 c2) G2 T2 B2 Q2 Z2 m2).toArray 29)]) := ((M.start _ w).alloc (.cells (hd (.slice a n c) G T A Q Z m).toArray 29) rfl).alloc (.cells (hd (.slice a2 n2 c2) G2 T2 B2 Q2 Z2 m2).toArray 29) (by simp)
    have E1 : Hid _ := h_at HM.out 0 rfl rfl hm
    have E2 : Hid _ := h_at HM.out 1 rfl rfl hm2
    obtain ⟨g0, g1, g2, g3, g4, g5⟩ := E1.out.cells
    obtain ⟨q0, q1, q2, q3, q4, q5⟩ := E2.out.cells
    have R1 : Hid _ := E1.out.commit
    have R2 : Hid _ := E2.out.commit
    generalize hX : (hd (.slice a n c) G T A Q Z m).toArray = X at HM E1 E2 g0 g1 g2 g3 g4 g5 q0 q1 q2 q3 q4 q5 R1 R2 ⊢
    generalize hX2 : (hd (.slice a2 n2 c2) G2 T2 B2 Q2 Z2 m2).toArray = X2 at HM E1 E2 g0 g1 g2 g3 g4 g5 q0 q1 q2 q3 q4 q5 R1 R2 ⊢
    have HX : Hid _ := hX
    have HX2 : Hid _ := hX2
    clear hX hX2
    clear h1 h2 hm hm2
    go_enter Tryd.func19, Tryd.ntmps19
    go_wp2_with (first | ((with_reducible refine at_load 23 ?_); first | (refine wl_loadG (by rfl) rfl rfl Hr.out R1.out ?_; simp only [Act.put, List.setIfInBounds_toArray, List.set_cons_zero, List.set_cons_succ]) | (refine wl_loadG (by rfl) rfl rfl Hr2.out R2.out ?_; simp only [Act.put, List.setIfInBounds_toArray, List.set_cons_zero, List.set_cons_succ])) | (go_at_call 45; refine (same_any _ a a2 n n2 c c2 l l2 (A1.out.calm HM.out.keep) (A2.out.calm HM.out.keep)).mono ?_; rw [HD.out]; rintro e w3 ⟨rfl, h3⟩; have HM : Hid _ := HM.out.calm h3; clear h3; have E1 : Hid _ := h_at HM.out 0 rfl HX.out Hr.out; have E2 : Hid _ := h_at HM.out 1 rfl HX2.out Hr2.out; obtain ⟨g0, g1, g2, g3, g4, g5⟩ := E1.out.cells; obtain ⟨q0, q1, q2, q3, q4, q5⟩ := E2.out.cells; have R1 : Hid _ := E1.out.commit; have R2 : Hid _ := E2.out.commit))
    go_ret
    exact ⟨rfl, HM.out.keep⟩
  have r1 : (m == m2) = true := by simpa using em
  have hcmp1 : ∀ w, Sem.run Tryd.prog (binOp .neq 23 (idv m) (idv m2)) w = .ok (.bool false) w := fun w => by rw [neq_id w m m2 hm hm2, r1]; rfl
  have hcmp2 : ∀ w, Sem.run Tryd.prog (binOp .eql 23 (idv m) (idv m2)) w = .ok (.bool true) w := fun w => by rw [eql_id w m m2 hm hm2, r1]
  rw [show smh l G T A Q Z m l2 G2 T2 B2 Q2 Z2 m2 = decide (l = l2) from by simp [smh, x1, eT, x3, x5, x7, r1]]
  clear eG eA eQ eZ em r1
  rw [HD.out]
  have A1 : Hid (At w a n l) := h1
  have A2 : Hid (At w a2 n2 l2) := h2
  have Hr : Hid (m.length = 32) := hm
  have Hr2 : Hid (m2.length = 32) := hm2
  have hgd := guard_id
  have HM : Hid (M (fun _ => False) w _ [blk w.heap.size (.cells (hd (.slice a n c) G T A Q Z m).toArray 29), blk (w.heap.size + 1) (.cells (hd (.slice a2 n2 c2) G2 T2 B2 Q2 Z2 m2).toArray 29)]) := ((M.start _ w).alloc (.cells (hd (.slice a n c) G T A Q Z m).toArray 29) rfl).alloc (.cells (hd (.slice a2 n2 c2) G2 T2 B2 Q2 Z2 m2).toArray 29) (by simp)
  have E1 : Hid _ := h_at HM.out 0 rfl rfl hm
  have E2 : Hid _ := h_at HM.out 1 rfl rfl hm2
  obtain ⟨g0, g1, g2, g3, g4, g5⟩ := E1.out.cells
  obtain ⟨q0, q1, q2, q3, q4, q5⟩ := E2.out.cells
  have R1 : Hid _ := E1.out.commit
  have R2 : Hid _ := E2.out.commit
  generalize hX : (hd (.slice a n c) G T A Q Z m).toArray = X at HM E1 E2 g0 g1 g2 g3 g4 g5 q0 q1 q2 q3 q4 q5 R1 R2 ⊢
  generalize hX2 : (hd (.slice a2 n2 c2) G2 T2 B2 Q2 Z2 m2).toArray = X2 at HM E1 E2 g0 g1 g2 g3 g4 g5 q0 q1 q2 q3 q4 q5 R1 R2 ⊢
  have HX : Hid _ := hX
  have HX2 : Hid _ := hX2
  clear hX hX2
  clear h1 h2 hm hm2
  go_enter Tryd.func19, Tryd.ntmps19
  go_wp2_with (first | ((with_reducible refine at_load 23 ?_); first | (refine wl_loadG (by rfl) rfl rfl Hr.out R1.out ?_; simp only [Act.put, List.setIfInBounds_toArray, List.set_cons_zero, List.set_cons_succ]) | (refine wl_loadG (by rfl) rfl rfl Hr2.out R2.out ?_; simp only [Act.put, List.setIfInBounds_toArray, List.set_cons_zero, List.set_cons_succ])) | (go_at_call 45; refine (same_any _ a a2 n n2 c c2 l l2 (A1.out.calm HM.out.keep) (A2.out.calm HM.out.keep)).mono ?_; rw [HD.out]; rintro e w3 ⟨rfl, h3⟩; have HM : Hid _ := HM.out.calm h3; clear h3; have E1 : Hid _ := h_at HM.out 0 rfl HX.out Hr.out; have E2 : Hid _ := h_at HM.out 1 rfl HX2.out Hr2.out; obtain ⟨g0, g1, g2, g3, g4, g5⟩ := E1.out.cells; obtain ⟨q0, q1, q2, q3, q4, q5⟩ := E2.out.cells; have R1 : Hid _ := E1.out.commit; have R2 : Hid _ := E2.out.commit))
  go_ret
  exact ⟨rfl, HM.out.keep⟩
set_option maxRecDepth 100000 in
set_option maxHeartbeats 4000000 in
theorem same_h (w : World) (a a2 : Option Addr) (n c n2 c2 : Nat) (l l2 : List (List UInt8)) (G G2 : Int) (T T2 : ByteArray) (A B2 Q Q2 Z Z2 : Int) (m m2 : List UInt8) (hm : m.length = 32) (hm2 : m2.length = 32) (h1 : At w a n l) (h2 : At w a2 n2 l2) (v : Bool) (hv : smh l G T A Q Z m l2 G2 T2 B2 Q2 Z2 m2 = v) :
    Calls Tryd.prog 18 #[.agg (hd (.slice a n c) G T A Q Z m).toArray, .agg (hd (.slice a2 n2 c2) G2 T2 B2 Q2 Z2 m2).toArray] w fun e w' => e = .returned (.bool v) ∧ Keep (fun _ => False) w w' := by
  subst hv
  have hm1 := h1.most
  have hm3 := h2.most
  unfold maxLen at hm1 hm3
  by_cases hl : n = n2
  case neg =>
    have hne : ¬ l = l2 := fun e => hl (by rw [← h1.len, ← h2.len, e])
    have hl' : ((n : Int) == (n2 : Int)) = false := by simp; omega
    have hl'' : ((n : Int) != (n2 : Int)) = true := by simp; omega
    rw [show smh l G T A Q Z m l2 G2 T2 B2 Q2 Z2 m2 = false from by simp [smh, hne]]
    clear hne
    have A1 : Hid (At w a n l) := h1
    have A2 : Hid (At w a2 n2 l2) := h2
    have Hr : Hid (m.length = 32) := hm
    have Hr2 : Hid (m2.length = 32) := hm2
    have hgd := guard_id
    have HM : Hid (M (fun _ => False) w _ [blk w.heap.size (.cells (hd (.slice a n c) G T A Q Z m).toArray 29), blk (w.heap.size + 1) (.cells (hd (.slice a2 n2 c2) G2 T2 B2 Q2 Z2 m2).toArray 29)]) := ((M.start _ w).alloc (.cells (hd (.slice a n c) G T A Q Z m).toArray 29) rfl).alloc (.cells (hd (.slice a2 n2 c2) G2 T2 B2 Q2 Z2 m2).toArray 29) (by simp)
    have E1 : Hid _ := h_at HM.out 0 rfl rfl hm
    have E2 : Hid _ := h_at HM.out 1 rfl rfl hm2
    obtain ⟨g0, g1, g2, g3, g4, g5⟩ := E1.out.cells
    obtain ⟨q0, q1, q2, q3, q4, q5⟩ := E2.out.cells
    have R1 : Hid _ := E1.out.commit
    have R2 : Hid _ := E2.out.commit
    generalize hX : (hd (.slice a n c) G T A Q Z m).toArray = X at HM E1 E2 g0 g1 g2 g3 g4 g5 q0 q1 q2 q3 q4 q5 R1 R2 ⊢
    generalize hX2 : (hd (.slice a2 n2 c2) G2 T2 B2 Q2 Z2 m2).toArray = X2 at HM E1 E2 g0 g1 g2 g3 g4 g5 q0 q1 q2 q3 q4 q5 R1 R2 ⊢
    have HX : Hid _ := hX
    have HX2 : Hid _ := hX2
    clear hX hX2
    clear h1 h2 hm hm2
    go_enter Tryd.func18, Tryd.ntmps18
    go_wp2_with (first | ((with_reducible refine at_load 23 ?_); first | (refine wl_loadG (by rfl) rfl rfl Hr.out R1.out ?_; simp only [Act.put, List.setIfInBounds_toArray, List.set_cons_zero, List.set_cons_succ]) | (refine wl_loadG (by rfl) rfl rfl Hr2.out R2.out ?_; simp only [Act.put, List.setIfInBounds_toArray, List.set_cons_zero, List.set_cons_succ])))
    go_ret
    exact ⟨rfl, HM.out.keep⟩
  subst hl
  by_cases eG : G = G2
  case neg =>
    have x1 : (G == G2) = false := by simpa using eG
    have x2 : (G != G2) = true := by simpa using eG
    rw [show smh l G T A Q Z m l2 G2 T2 B2 Q2 Z2 m2 = false from by simp [smh, x1]]
    clear eG
    have A1 : Hid (At w a n l) := h1
    have A2 : Hid (At w a2 n l2) := h2
    have Hr : Hid (m.length = 32) := hm
    have Hr2 : Hid (m2.length = 32) := hm2
    have hgd := guard_id
    have HM : Hid (M (fun _ => False) w _ [blk w.heap.size (.cells (hd (.slice a n c) G T A Q Z m).toArray 29), blk (w.heap.size + 1) (.cells (hd (.slice a2 n c2) G2 T2 B2 Q2 Z2 m2).toArray 29)]) := ((M.start _ w).alloc (.cells (hd (.slice a n c) G T A Q Z m).toArray 29) rfl).alloc (.cells (hd (.slice a2 n c2) G2 T2 B2 Q2 Z2 m2).toArray 29) (by simp)
    have E1 : Hid _ := h_at HM.out 0 rfl rfl hm
    have E2 : Hid _ := h_at HM.out 1 rfl rfl hm2
    obtain ⟨g0, g1, g2, g3, g4, g5⟩ := E1.out.cells
    obtain ⟨q0, q1, q2, q3, q4, q5⟩ := E2.out.cells
    have R1 : Hid _ := E1.out.commit
    have R2 : Hid _ := E2.out.commit
    generalize hX : (hd (.slice a n c) G T A Q Z m).toArray = X at HM E1 E2 g0 g1 g2 g3 g4 g5 q0 q1 q2 q3 q4 q5 R1 R2 ⊢
    generalize hX2 : (hd (.slice a2 n c2) G2 T2 B2 Q2 Z2 m2).toArray = X2 at HM E1 E2 g0 g1 g2 g3 g4 g5 q0 q1 q2 q3 q4 q5 R1 R2 ⊢
    have HX : Hid _ := hX
    have HX2 : Hid _ := hX2
    clear hX hX2
    clear h1 h2 hm hm2
    go_enter Tryd.func18, Tryd.ntmps18
    go_wp2_with (first | ((with_reducible refine at_load 23 ?_); first | (refine wl_loadG (by rfl) rfl rfl Hr.out R1.out ?_; simp only [Act.put, List.setIfInBounds_toArray, List.set_cons_zero, List.set_cons_succ]) | (refine wl_loadG (by rfl) rfl rfl Hr2.out R2.out ?_; simp only [Act.put, List.setIfInBounds_toArray, List.set_cons_zero, List.set_cons_succ])))
    go_ret
    exact ⟨rfl, HM.out.keep⟩
  have x1 : (G == G2) = true := by simpa using eG
  have x2 : (G != G2) = false := by simpa using eG
  by_cases eT : T.toList = T2.toList
  case neg =>
    rw [show smh l G T A Q Z m l2 G2 T2 B2 Q2 Z2 m2 = false from by simp [smh, eT]]
    clear eG
    have A1 : Hid (At w a n l) := h1
    have A2 : Hid (At w a2 n l2) := h2
    have Hr : Hid (m.length = 32) := hm
    have Hr2 : Hid (m2.length = 32) := hm2
    have hgd := guard_id
    have HM : Hid (M (fun _ => False) w _ [blk w.heap.size (.cells (hd (.slice a n c) G T A Q Z m).toArray 29), blk (w.heap.size + 1) (.cells (hd (.slice a2 n c2) G2 T2 B2 Q2 Z2 m2).toArray 29)]) := ((M.start _ w).alloc (.cells (hd (.slice a n c) G T A Q Z m).toArray 29) rfl).alloc (.cells (hd (.slice a2 n c2) G2 T2 B2 Q2 Z2 m2).toArray 29) (by simp)
    have E1 : Hid _ := h_at HM.out 0 rfl rfl hm
    have E2 : Hid _ := h_at HM.out 1 rfl rfl hm2
    obtain ⟨g0, g1, g2, g3, g4, g5⟩ := E1.out.cells
    obtain ⟨q0, q1, q2, q3, q4, q5⟩ := E2.out.cells
    have R1 : Hid _ := E1.out.commit
    have R2 : Hid _ := E2.out.commit
    generalize hX : (hd (.slice a n c) G T A Q Z m).toArray = X at HM E1 E2 g0 g1 g2 g3 g4 g5 q0 q1 q2 q3 q4 q5 R1 R2 ⊢
    generalize hX2 : (hd (.slice a2 n c2) G2 T2 B2 Q2 Z2 m2).toArray = X2 at HM E1 E2 g0 g1 g2 g3 g4 g5 q0 q1 q2 q3 q4 q5 R1 R2 ⊢
    have HX : Hid _ := hX
    have HX2 : Hid _ := hX2
    clear hX hX2
    clear h1 h2 hm hm2
    go_enter Tryd.func18, Tryd.ntmps18
    go_wp2_with (first | ((with_reducible refine at_load 23 ?_); first | (refine wl_loadG (by rfl) rfl rfl Hr.out R1.out ?_; simp only [Act.put, List.setIfInBounds_toArray, List.set_cons_zero, List.set_cons_succ]) | (refine wl_loadG (by rfl) rfl rfl Hr2.out R2.out ?_; simp only [Act.put, List.setIfInBounds_toArray, List.set_cons_zero, List.set_cons_succ])))
    go_ret
    exact ⟨rfl, HM.out.keep⟩
  by_cases eA : A = B2
  case neg =>
    have x3 : (A == B2) = false := by simpa using eA
    have x4 : (A != B2) = true := by simpa using eA
    rw [show smh l G T A Q Z m l2 G2 T2 B2 Q2 Z2 m2 = false from by simp [smh, x3]]
    clear eG eA
    have A1 : Hid (At w a n l) := h1
    have A2 : Hid (At w a2 n l2) := h2
    have Hr : Hid (m.length = 32) := hm
    have Hr2 : Hid (m2.length = 32) := hm2
    have hgd := guard_id
    have HM : Hid (M (fun _ => False) w _ [blk w.heap.size (.cells (hd (.slice a n c) G T A Q Z m).toArray 29), blk (w.heap.size + 1) (.cells (hd (.slice a2 n c2) G2 T2 B2 Q2 Z2 m2).toArray 29)]) := ((M.start _ w).alloc (.cells (hd (.slice a n c) G T A Q Z m).toArray 29) rfl).alloc (.cells (hd (.slice a2 n c2) G2 T2 B2 Q2 Z2 m2).toArray 29) (by simp)
    have E1 : Hid _ := h_at HM.out 0 rfl rfl hm
    have E2 : Hid _ := h_at HM.out 1 rfl rfl hm2
    obtain ⟨g0, g1, g2, g3, g4, g5⟩ := E1.out.cells
    obtain ⟨q0, q1, q2, q3, q4, q5⟩ := E2.out.cells
    have R1 : Hid _ := E1.out.commit
    have R2 : Hid _ := E2.out.commit
    generalize hX : (hd (.slice a n c) G T A Q Z m).toArray = X at HM E1 E2 g0 g1 g2 g3 g4 g5 q0 q1 q2 q3 q4 q5 R1 R2 ⊢
    generalize hX2 : (hd (.slice a2 n c2) G2 T2 B2 Q2 Z2 m2).toArray = X2 at HM E1 E2 g0 g1 g2 g3 g4 g5 q0 q1 q2 q3 q4 q5 R1 R2 ⊢
    have HX : Hid _ := hX
    have HX2 : Hid _ := hX2
    clear hX hX2
    clear h1 h2 hm hm2
    go_enter Tryd.func18, Tryd.ntmps18
    go_wp2_with (first | ((with_reducible refine at_load 23 ?_); first | (refine wl_loadG (by rfl) rfl rfl Hr.out R1.out ?_; simp only [Act.put, List.setIfInBounds_toArray, List.set_cons_zero, List.set_cons_succ]) | (refine wl_loadG (by rfl) rfl rfl Hr2.out R2.out ?_; simp only [Act.put, List.setIfInBounds_toArray, List.set_cons_zero, List.set_cons_succ])))
    go_ret
    exact ⟨rfl, HM.out.keep⟩
  have x3 : (A == B2) = true := by simpa using eA
  have x4 : (A != B2) = false := by simpa using eA
  by_cases eQ : Q = Q2
  case neg =>
    have x5 : (Q == Q2) = false := by simpa using eQ
    have x6 : (Q != Q2) = true := by simpa using eQ
    rw [show smh l G T A Q Z m l2 G2 T2 B2 Q2 Z2 m2 = false from by simp [smh, x5]]
    clear eG eA eQ
    have A1 : Hid (At w a n l) := h1
    have A2 : Hid (At w a2 n l2) := h2
    have Hr : Hid (m.length = 32) := hm
    have Hr2 : Hid (m2.length = 32) := hm2
    have hgd := guard_id
    have HM : Hid (M (fun _ => False) w _ [blk w.heap.size (.cells (hd (.slice a n c) G T A Q Z m).toArray 29), blk (w.heap.size + 1) (.cells (hd (.slice a2 n c2) G2 T2 B2 Q2 Z2 m2).toArray 29)]) := ((M.start _ w).alloc (.cells (hd (.slice a n c) G T A Q Z m).toArray 29) rfl).alloc (.cells (hd (.slice a2 n c2) G2 T2 B2 Q2 Z2 m2).toArray 29) (by simp)
    have E1 : Hid _ := h_at HM.out 0 rfl rfl hm
    have E2 : Hid _ := h_at HM.out 1 rfl rfl hm2
    obtain ⟨g0, g1, g2, g3, g4, g5⟩ := E1.out.cells
    obtain ⟨q0, q1, q2, q3, q4, q5⟩ := E2.out.cells
    have R1 : Hid _ := E1.out.commit
    have R2 : Hid _ := E2.out.commit
    generalize hX : (hd (.slice a n c) G T A Q Z m).toArray = X at HM E1 E2 g0 g1 g2 g3 g4 g5 q0 q1 q2 q3 q4 q5 R1 R2 ⊢
    generalize hX2 : (hd (.slice a2 n c2) G2 T2 B2 Q2 Z2 m2).toArray = X2 at HM E1 E2 g0 g1 g2 g3 g4 g5 q0 q1 q2 q3 q4 q5 R1 R2 ⊢
    have HX : Hid _ := hX
    have HX2 : Hid _ := hX2
    clear hX hX2
    clear h1 h2 hm hm2
    go_enter Tryd.func18, Tryd.ntmps18
    go_wp2_with (first | ((with_reducible refine at_load 23 ?_); first | (refine wl_loadG (by rfl) rfl rfl Hr.out R1.out ?_; simp only [Act.put, List.setIfInBounds_toArray, List.set_cons_zero, List.set_cons_succ]) | (refine wl_loadG (by rfl) rfl rfl Hr2.out R2.out ?_; simp only [Act.put, List.setIfInBounds_toArray, List.set_cons_zero, List.set_cons_succ])))
    go_ret
    exact ⟨rfl, HM.out.keep⟩
  have x5 : (Q == Q2) = true := by simpa using eQ
  have x6 : (Q != Q2) = false := by simpa using eQ
  by_cases eZ : Z = Z2
  case neg =>
    have x7 : (Z == Z2) = false := by simpa using eZ
    have x8 : (Z != Z2) = true := by simpa using eZ
    rw [show smh l G T A Q Z m l2 G2 T2 B2 Q2 Z2 m2 = false from by simp [smh, x7]]
    clear eG eA eQ eZ
    have A1 : Hid (At w a n l) := h1
    have A2 : Hid (At w a2 n l2) := h2
    have Hr : Hid (m.length = 32) := hm
    have Hr2 : Hid (m2.length = 32) := hm2
    have hgd := guard_id
    have HM : Hid (M (fun _ => False) w _ [blk w.heap.size (.cells (hd (.slice a n c) G T A Q Z m).toArray 29), blk (w.heap.size + 1) (.cells (hd (.slice a2 n c2) G2 T2 B2 Q2 Z2 m2).toArray 29)]) := ((M.start _ w).alloc (.cells (hd (.slice a n c) G T A Q Z m).toArray 29) rfl).alloc (.cells (hd (.slice a2 n c2) G2 T2 B2 Q2 Z2 m2).toArray 29) (by simp)
    have E1 : Hid _ := h_at HM.out 0 rfl rfl hm
    have E2 : Hid _ := h_at HM.out 1 rfl rfl hm2
    obtain ⟨g0, g1, g2, g3, g4, g5⟩ := E1.out.cells
    obtain ⟨q0, q1, q2, q3, q4, q5⟩ := E2.out.cells
    have R1 : Hid _ := E1.out.commit
    have R2 : Hid _ := E2.out.commit
    generalize hX : (hd (.slice a n c) G T A Q Z m).toArray = X at HM E1 E2 g0 g1 g2 g3 g4 g5 q0 q1 q2 q3 q4 q5 R1 R2 ⊢
    generalize hX2 : (hd (.slice a2 n c2) G2 T2 B2 Q2 Z2 m2).toArray = X2 at HM E1 E2 g0 g1 g2 g3 g4 g5 q0 q1 q2 q3 q4 q5 R1 R2 ⊢
    have HX : Hid _ := hX
    have HX2 : Hid _ := hX2
    clear hX hX2
    clear h1 h2 hm hm2
    go_enter Tryd.func18, Tryd.ntmps18
    go_wp2_with (first | ((with_reducible refine at_load 23 ?_); first | (refine wl_loadG (by rfl) rfl rfl Hr.out R1.out ?_; simp only [Act.put, List.setIfInBounds_toArray, List.set_cons_zero, List.set_cons_succ]) | (refine wl_loadG (by rfl) rfl rfl Hr2.out R2.out ?_; simp only [Act.put, List.setIfInBounds_toArray, List.set_cons_zero, List.set_cons_succ])))
    go_ret
    exact ⟨rfl, HM.out.keep⟩
  have x7 : (Z == Z2) = true := by simpa using eZ
  have x8 : (Z != Z2) = false := by simpa using eZ
  by_cases em : m = m2
  case neg =>
    have r1 : (m == m2) = false := by simpa using em
    rw [show smh l G T A Q Z m l2 G2 T2 B2 Q2 Z2 m2 = false from by simp [smh, r1]]
    have hcmp1 : ∀ w, Sem.run Tryd.prog (binOp .neq 23 (idv m) (idv m2)) w = .ok (.bool true) w := fun w => by rw [neq_id w m m2 hm hm2, r1]; rfl
    have hcmp2 : ∀ w, Sem.run Tryd.prog (binOp .eql 23 (idv m) (idv m2)) w = .ok (.bool false) w := fun w => by rw [eql_id w m m2 hm hm2, r1]
    clear eG eA eQ eZ em r1
    have A1 : Hid (At w a n l) := h1
    have A2 : Hid (At w a2 n l2) := h2
    have Hr : Hid (m.length = 32) := hm
    have Hr2 : Hid (m2.length = 32) := hm2
    have hgd := guard_id
    have HM : Hid (M (fun _ => False) w _ [blk w.heap.size (.cells (hd (.slice a n c) G T A Q Z m).toArray 29), blk (w.heap.size + 1) (.cells (hd (.slice a2 n c2) G2 T2 B2 Q2 Z2 m2).toArray 29)]) := ((M.start _ w).alloc (.cells (hd (.slice a n c) G T A Q Z m).toArray 29) rfl).alloc (.cells (hd (.slice a2 n c2) G2 T2 B2 Q2 Z2 m2).toArray 29) (by simp)
    have E1 : Hid _ := h_at HM.out 0 rfl rfl hm
    have E2 : Hid _ := h_at HM.out 1 rfl rfl hm2
    obtain ⟨g0, g1, g2, g3, g4, g5⟩ := E1.out.cells
    obtain ⟨q0, q1, q2, q3, q4, q5⟩ := E2.out.cells
    have R1 : Hid _ := E1.out.commit
    have R2 : Hid _ := E2.out.commit
    generalize hX : (hd (.slice a n c) G T A Q Z m).toArray = X at HM E1 E2 g0 g1 g2 g3 g4 g5 q0 q1 q2 q3 q4 q5 R1 R2 ⊢
    generalize hX2 : (hd (.slice a2 n c2) G2 T2 B2 Q2 Z2 m2).toArray = X2 at HM E1 E2 g0 g1 g2 g3 g4 g5 q0 q1 q2 q3 q4 q5 R1 R2 ⊢
    have HX : Hid _ := hX
    have HX2 : Hid _ := hX2
    clear hX hX2
    clear h1 h2 hm hm2
    go_enter Tryd.func18, Tryd.ntmps18
    go_wp2_with (first | ((with_reducible refine at_load 23 ?_); first | (refine wl_loadG (by rfl) rfl rfl Hr.out R1.out ?_; simp only [Act.put, List.setIfInBounds_toArray, List.set_cons_zero, List.set_cons_succ]) | (refine wl_loadG (by rfl) rfl rfl Hr2.out R2.out ?_; simp only [Act.put, List.setIfInBounds_toArray, List.set_cons_zero, List.set_cons_succ])))
    go_ret
    exact ⟨rfl, HM.out.keep⟩
  have r1 : (m == m2) = true := by simpa using em
  have hcmp1 : ∀ w, Sem.run Tryd.prog (binOp .neq 23 (idv m) (idv m2)) w = .ok (.bool false) w := fun w => by rw [neq_id w m m2 hm hm2, r1]; rfl
  have hcmp2 : ∀ w, Sem.run Tryd.prog (binOp .eql 23 (idv m) (idv m2)) w = .ok (.bool true) w := fun w => by rw [eql_id w m m2 hm hm2, r1]
  rw [show smh l G T A Q Z m l2 G2 T2 B2 Q2 Z2 m2 = decide (l = l2) from by simp [smh, x1, eT, x3, x5, x7, r1]]
  clear eG eA eQ eZ em r1
  have Hm : Hid ((l.take n = l2.take n) → l = l2) := fun e => by
    rwa [List.take_of_length_le (by rw [h1.len]; exact Nat.le_refl _), List.take_of_length_le (by rw [h2.len]; exact Nat.le_refl _)] at e
  have A1 : Hid (At w a n l) := h1
  have A2 : Hid (At w a2 n l2) := h2
  have Hr : Hid (m.length = 32) := hm
  have Hr2 : Hid (m2.length = 32) := hm2
  have hgd := guard_id
  have HM : Hid (M (fun _ => False) w _ [blk w.heap.size (.cells (hd (.slice a n c) G T A Q Z m).toArray 29), blk (w.heap.size + 1) (.cells (hd (.slice a2 n c2) G2 T2 B2 Q2 Z2 m2).toArray 29)]) := ((M.start _ w).alloc (.cells (hd (.slice a n c) G T A Q Z m).toArray 29) rfl).alloc (.cells (hd (.slice a2 n c2) G2 T2 B2 Q2 Z2 m2).toArray 29) (by simp)
  have E1 : Hid _ := h_at HM.out 0 rfl rfl hm
  have E2 : Hid _ := h_at HM.out 1 rfl rfl hm2
  obtain ⟨g0, g1, g2, g3, g4, g5⟩ := E1.out.cells
  obtain ⟨q0, q1, q2, q3, q4, q5⟩ := E2.out.cells
  have R1 : Hid _ := E1.out.commit
  have R2 : Hid _ := E2.out.commit
  generalize hX : (hd (.slice a n c) G T A Q Z m).toArray = X at HM E1 E2 g0 g1 g2 g3 g4 g5 q0 q1 q2 q3 q4 q5 R1 R2 ⊢
  generalize hX2 : (hd (.slice a2 n c2) G2 T2 B2 Q2 Z2 m2).toArray = X2 at HM E1 E2 g0 g1 g2 g3 g4 g5 q0 q1 q2 q3 q4 q5 R1 R2 ⊢
  have HX : Hid _ := hX
  have HX2 : Hid _ := hX2
  clear hX hX2
  clear h1 h2 hm hm2
  go_enter Tryd.func18, Tryd.ntmps18
  go_wp2_with (first | ((with_reducible refine at_load 23 ?_); first | (refine wl_loadG (by rfl) rfl rfl Hr.out R1.out ?_; simp only [Act.put, List.setIfInBounds_toArray, List.set_cons_zero, List.set_cons_succ]) | (refine wl_loadG (by rfl) rfl rfl Hr2.out R2.out ?_; simp only [Act.put, List.setIfInBounds_toArray, List.set_cons_zero, List.set_cons_succ])))
  clear hcmp1 hcmp2
  go_loopw [59, 5, 6] (fun i _ _ wr => ∃ k : Nat, k ≤ n ∧ i = .int .i64 k ∧ M (fun _ => False) w wr [blk w.heap.size (.cells X 29), blk (w.heap.size + 1) (.cells X2 29)] ∧ l.take k = l2.take k) (fun i _ _ _ => n - (intOf i).toNat)
  case atStart => exact ⟨0, Nat.zero_le _, rfl, HM.out, rfl⟩
  case round =>
    obtain ⟨k, hk, rfl, hM, hmm⟩ := hrel
    have HM : Hid _ := hM
    have HT : Hid _ := hmm
    clear hM hmm
    by_cases hlt : k < n
    · obtain ⟨x, hx⟩ : ∃ x, l[k]? = some x := ⟨_, List.getElem?_eq_getElem (by rw [A1.out.len]; omega)⟩
      obtain ⟨y, hy⟩ : ∃ y, l2[k]? = some y := ⟨_, List.getElem?_eq_getElem (by rw [A2.out.len]; omega)⟩
      obtain ⟨g1, o1, rfl, hb1, hr1⟩ : ∃ b off, a = some ⟨b, off, none⟩ ∧ b < w.heap.size ∧ ∀ i x, l[i]? = some x → w.rangeAt b (off + i * 32) (x.map bv) := by rcases A1.out.lay with e | e; omega; exact e
      obtain ⟨g2, o2, rfl, hb2, hr2⟩ : ∃ b off, a2 = some ⟨b, off, none⟩ ∧ b < w.heap.size ∧ ∀ i x, l2[i]? = some x → w.rangeAt b (off + i * 32) (x.map bv) := by rcases A2.out.lay with e | e; omega; exact e
      have R1 : Hid _ := HM.out.keep.range hb1 (fun h => h) (hr1 k x hx)
      have R2 : Hid _ := (HM.out.keep.alloc (.cells (x.map bv).toArray 23)).drew.range hb2 (fun h => h) (hr2 k y hy)
      have lx := A1.out.size x (List.mem_of_getElem? hx)
      have ly := A2.out.size y (List.mem_of_getElem? hy)
      have hcmp : ∀ w, Sem.run Tryd.prog (binOp .neq 23 (idv x) (idv y)) w = .ok (.bool (!(x == y))) w := fun w => neq_id w x y lx ly
      have Lx : Hid (x.length = 32) := lx
      have Ly : Hid (y.length = 32) := ly
      have Hx : Hid _ := hx
      have Hy : Hid _ := hy
      clear hr1 hr2 hx hy lx ly
      by_cases he : x = y
      · have HE : Hid _ := he
        have heb : (x == y) = true := by simpa using he
        rw [heb] at hcmp
        clear he heb
        go_wp2_with (first | (refine Ids.wl_load rfl rfl rfl Lx.out R1.out ?_; simp only [Act.put, List.setIfInBounds_toArray, List.set_cons_zero, List.set_cons_succ]) | (refine wl_store_new rfl rfl rfl rfl rfl Lx.out rfl ?_))
        have HM : Hid _ := HM.out.alloc (.cells (x.map bv).toArray 23) rfl
        have E2 : Hid (HAt _ (w.heap.size + 1) (.slice (some ⟨g2, o2, none⟩) n c2) G2 T2 B2 Q2 Z2 m2) := h_at HM.out 1 rfl HX2.out Hr2.out
        have q0 := E2.out.cells.1
        refine Txt.wp_region_text (fun _ => True) [1, 0, 1, 0, 0, 1, 0] (by kernel_rfl) (by kernel_rfl) trivial ?_
        (repeat (first | (refine Txt.tl_pure (v := ?_) (by rfl) ?_ ?_; rotate_left; (focus (intro _; go_simp; try with_reducible rfl)); simp only [Act.put, List.setIfInBounds_toArray, List.set_cons_zero, List.set_cons_succ]) | (refine Txt.tl_skip (by rfl) (by first | trivial | exact HS.out) ?_; simp only [Act.put, List.setIfInBounds_toArray, List.set_cons_zero, List.set_cons_succ]) | (refine Txt.tl_load (v := ?_) (by rfl) (by rfl) (by rfl) (by kernel_rfl) ?_ ?_; rotate_left; (focus (first | assumption | (go_simp; done) | (go_simp; with_reducible rfl))); simp only [Act.put, List.setIfInBounds_toArray, List.set_cons_zero, List.set_cons_succ]) | (refine Txt.tl_loadB (v := ?_) (by rfl) (by rfl) (by rfl) (by kernel_rfl) ?_ ?_; rotate_left; (focus assumption); simp only [Act.put, List.setIfInBounds_toArray, List.set_cons_zero, List.set_cons_succ])))
        refine Txt.tl_rowN (n := 32) (by rfl) (by rfl) (by rfl) (HM.out.range 2 rfl) (by kernel_rfl) (by rw [List.length_map]; exact Lx.out) ?_
        simp only [Act.put, List.setIfInBounds_toArray, List.set_cons_zero, List.set_cons_succ]
        (repeat (first | (refine Txt.tl_pure (v := ?_) (by rfl) ?_ ?_; rotate_left; (focus (intro _; go_simp; try with_reducible rfl)); simp only [Act.put, List.setIfInBounds_toArray, List.set_cons_zero, List.set_cons_succ]) | (refine Txt.tl_skip (by rfl) (by first | trivial | exact HS.out) ?_; simp only [Act.put, List.setIfInBounds_toArray, List.set_cons_zero, List.set_cons_succ]) | (refine Txt.tl_load (v := ?_) (by rfl) (by rfl) (by rfl) (by kernel_rfl) ?_ ?_; rotate_left; (focus (first | assumption | (go_simp; done) | (go_simp; with_reducible rfl))); simp only [Act.put, List.setIfInBounds_toArray, List.set_cons_zero, List.set_cons_succ]) | (refine Txt.tl_loadB (v := ?_) (by rfl) (by rfl) (by rfl) (by kernel_rfl) ?_ ?_; rotate_left; (focus assumption); simp only [Act.put, List.setIfInBounds_toArray, List.set_cons_zero, List.set_cons_succ])))
        refine Txt.tl_rowN (n := 32) (by rfl) (by rfl) (by rfl) R2.out (by kernel_rfl) (by rw [List.length_map]; exact Ly.out) ?_
        simp only [Act.put, List.setIfInBounds_toArray, List.set_cons_zero, List.set_cons_succ]
        (repeat (first | (refine Txt.tl_pure (v := ?_) (by rfl) ?_ ?_; rotate_left; (focus (intro _; go_simp; try with_reducible rfl)); simp only [Act.put, List.setIfInBounds_toArray, List.set_cons_zero, List.set_cons_succ]) | (refine Txt.tl_skip (by rfl) (by first | trivial | exact HS.out) ?_; simp only [Act.put, List.setIfInBounds_toArray, List.set_cons_zero, List.set_cons_succ]) | (refine Txt.tl_load (v := ?_) (by rfl) (by rfl) (by rfl) (by kernel_rfl) ?_ ?_; rotate_left; (focus (first | assumption | (go_simp; done) | (go_simp; with_reducible rfl))); simp only [Act.put, List.setIfInBounds_toArray, List.set_cons_zero, List.set_cons_succ]) | (refine Txt.tl_loadB (v := ?_) (by rfl) (by rfl) (by rfl) (by kernel_rfl) ?_ ?_; rotate_left; (focus assumption); simp only [Act.put, List.setIfInBounds_toArray, List.set_cons_zero, List.set_cons_succ])))
        refine Txt.tl_nil ?_
        go_wp2
        go_roundw
        case rel => exact ⟨k + 1, by omega, rfl, (HM.out.take 2).drew, take_step l l2 k x y Hx.out Hy.out HT.out HE.out⟩
        case measure => simp [intOf]; omega
      · have HE : Hid _ := he
        have heb : (x == y) = false := by simpa using he
        rw [heb] at hcmp
        clear he heb
        go_wp2_with (first | (refine Ids.wl_load rfl rfl rfl Lx.out R1.out ?_; simp only [Act.put, List.setIfInBounds_toArray, List.set_cons_zero, List.set_cons_succ]) | (refine wl_store_new rfl rfl rfl rfl rfl Lx.out rfl ?_))
        have HM : Hid _ := HM.out.alloc (.cells (x.map bv).toArray 23) rfl
        have E2 : Hid (HAt _ (w.heap.size + 1) (.slice (some ⟨g2, o2, none⟩) n c2) G2 T2 B2 Q2 Z2 m2) := h_at HM.out 1 rfl HX2.out Hr2.out
        have q0 := E2.out.cells.1
        refine Txt.wp_region_text (fun _ => True) [1, 0, 1, 0, 0, 1, 0] (by kernel_rfl) (by kernel_rfl) trivial ?_
        (repeat (first | (refine Txt.tl_pure (v := ?_) (by rfl) ?_ ?_; rotate_left; (focus (intro _; go_simp; try with_reducible rfl)); simp only [Act.put, List.setIfInBounds_toArray, List.set_cons_zero, List.set_cons_succ]) | (refine Txt.tl_skip (by rfl) (by first | trivial | exact HS.out) ?_; simp only [Act.put, List.setIfInBounds_toArray, List.set_cons_zero, List.set_cons_succ]) | (refine Txt.tl_load (v := ?_) (by rfl) (by rfl) (by rfl) (by kernel_rfl) ?_ ?_; rotate_left; (focus (first | assumption | (go_simp; done) | (go_simp; with_reducible rfl))); simp only [Act.put, List.setIfInBounds_toArray, List.set_cons_zero, List.set_cons_succ]) | (refine Txt.tl_loadB (v := ?_) (by rfl) (by rfl) (by rfl) (by kernel_rfl) ?_ ?_; rotate_left; (focus assumption); simp only [Act.put, List.setIfInBounds_toArray, List.set_cons_zero, List.set_cons_succ])))
        refine Txt.tl_rowN (n := 32) (by rfl) (by rfl) (by rfl) (HM.out.range 2 rfl) (by kernel_rfl) (by rw [List.length_map]; exact Lx.out) ?_
        simp only [Act.put, List.setIfInBounds_toArray, List.set_cons_zero, List.set_cons_succ]
        (repeat (first | (refine Txt.tl_pure (v := ?_) (by rfl) ?_ ?_; rotate_left; (focus (intro _; go_simp; try with_reducible rfl)); simp only [Act.put, List.setIfInBounds_toArray, List.set_cons_zero, List.set_cons_succ]) | (refine Txt.tl_skip (by rfl) (by first | trivial | exact HS.out) ?_; simp only [Act.put, List.setIfInBounds_toArray, List.set_cons_zero, List.set_cons_succ]) | (refine Txt.tl_load (v := ?_) (by rfl) (by rfl) (by rfl) (by kernel_rfl) ?_ ?_; rotate_left; (focus (first | assumption | (go_simp; done) | (go_simp; with_reducible rfl))); simp only [Act.put, List.setIfInBounds_toArray, List.set_cons_zero, List.set_cons_succ]) | (refine Txt.tl_loadB (v := ?_) (by rfl) (by rfl) (by rfl) (by kernel_rfl) ?_ ?_; rotate_left; (focus assumption); simp only [Act.put, List.setIfInBounds_toArray, List.set_cons_zero, List.set_cons_succ])))
        refine Txt.tl_rowN (n := 32) (by rfl) (by rfl) (by rfl) R2.out (by kernel_rfl) (by rw [List.length_map]; exact Ly.out) ?_
        simp only [Act.put, List.setIfInBounds_toArray, List.set_cons_zero, List.set_cons_succ]
        (repeat (first | (refine Txt.tl_pure (v := ?_) (by rfl) ?_ ?_; rotate_left; (focus (intro _; go_simp; try with_reducible rfl)); simp only [Act.put, List.setIfInBounds_toArray, List.set_cons_zero, List.set_cons_succ]) | (refine Txt.tl_skip (by rfl) (by first | trivial | exact HS.out) ?_; simp only [Act.put, List.setIfInBounds_toArray, List.set_cons_zero, List.set_cons_succ]) | (refine Txt.tl_load (v := ?_) (by rfl) (by rfl) (by rfl) (by kernel_rfl) ?_ ?_; rotate_left; (focus (first | assumption | (go_simp; done) | (go_simp; with_reducible rfl))); simp only [Act.put, List.setIfInBounds_toArray, List.set_cons_zero, List.set_cons_succ]) | (refine Txt.tl_loadB (v := ?_) (by rfl) (by rfl) (by rfl) (by kernel_rfl) ?_ ?_; rotate_left; (focus assumption); simp only [Act.put, List.setIfInBounds_toArray, List.set_cons_zero, List.set_cons_succ])))
        refine Txt.tl_nil ?_
        go_wp2
        go_ret
        exact ⟨by rw [decide_eq_false (take_ne l l2 k x y Hx.out Hy.out HE.out)]; rfl, HM.out.keep.drew⟩
    · obtain rfl : k = n := by omega
      have e : decide (l = l2) = true := decide_eq_true (Hm.out HT.out)
      go_wp2
      go_ret
      exact ⟨by rw [e]; rfl, HM.out.keep⟩
end Hd
end Go.Proofs.YthdjbpimjbkajaaDoor
