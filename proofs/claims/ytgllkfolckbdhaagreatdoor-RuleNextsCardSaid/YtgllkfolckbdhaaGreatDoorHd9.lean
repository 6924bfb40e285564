/-
  header.Same, petrelref08.Same.
-/
import Derived.Test.YtgllkfolckbdhaaGreatDoorHd3
import Derived.Test.YtgllkfolckbdhaaGreatDoorGTx
import Derived.Test.YtgllkfolckbdhaaGreatDoorGOp
set_option linter.unusedVariables false
set_option linter.unusedSimpArgs false
namespace Go.Proofs.YtgllkfolckbdhaaGreatDoor
open Go.RowKit
namespace Hd
open Oct Ids Gn
open Mem (M blk)

/-- Are two headers the same? -/
def smh (l : List (List UInt8)) (G : Int) (T : ByteArray) (A Q Z : Int) (m : List UInt8) (l2 : List (List UInt8)) (G2 : Int) (T2 : ByteArray) (B2 Q2 Z2 : Int) (m2 : List UInt8) : Bool := (G == G2 && (T.toList == T2.toList && (A == B2 && (Q == Q2 && (Z == Z2 && (m == m2 && decide (l = l2)))))))
set_option maxRecDepth 100000 in
set_option maxHeartbeats 4000000 in
theorem rsame_h (w : World) (a a2 : Option Addr) (n c n2 c2 : Nat) (l l2 : List (List UInt8)) (G G2 : Int) (T T2 : ByteArray) (A B2 Q Q2 Z Z2 : Int) (m m2 : List UInt8) (hm : m.length = 32) (hm2 : m2.length = 32) (h1 : At w a n l) (h2 : At w a2 n2 l2) (v : Bool) (hv : smh l G T A Q Z m l2 G2 T2 B2 Q2 Z2 m2 = v) :
    Calls Tryz.prog 10 #[.agg (hd (.slice a n c) G T A Q Z m).toArray, .agg (hd (.slice a2 n2 c2) G2 T2 B2 Q2 Z2 m2).toArray] w fun e w' => e = .returned (.bool v) ∧ Keep (fun _ => False) w w' := by
  subst hv
  by_cases el : l = l2
  case neg =>
    have HD : Hid (decide (l = l2) = false) := decide_eq_false el
    rw [show smh l G T A Q Z m l2 G2 T2 B2 Q2 Z2 m2 = false from by simp [smh, el]]
    clear el
    have A1 : Hid (At w a n l) := h1
    have A2 : Hid (At w a2 n2 l2) := h2
    have Hr : Hid (m.length = 32) := hm
    have Hr2 : Hid (m2.length = 32) := hm2
    have hgd := guard_id
    have HM : Hid (M (fun _ => False) w _ [blk w.heap.size (.cells (hd (.slice a n c) G T A Q Z m).toArray 28), blk (w.heap.size + 1) (.cells (hd (.slice a2 n2 c2) G2 T2 B2 Q2 Z2 m2).toArray 28)]) := ((M.start _ w).alloc (.cells (hd (.slice a n c) G T A Q Z m).toArray 28) rfl).alloc (.cells (hd (.slice a2 n2 c2) G2 T2 B2 Q2 Z2 m2).toArray 28) (by simp)
    have E1 : Hid _ := h_at HM.out 0 rfl rfl hm
    have E2 : Hid _ := h_at HM.out 1 rfl rfl hm2
    obtain ⟨g0, g1, g2, g3, g4, g5⟩ := E1.out.cells
    obtain ⟨q0, q1, q2, q3, q4, q5⟩ := E2.out.cells
    have R1 : Hid _ := E1.out.commit
    have R2 : Hid _ := E2.out.commit
    generalize hX : (hd (.slice a n c) G T A Q Z m).toArray = X at HM E1 E2 g0 g1 g2 g3 g4 g5 q0 q1 q2 q3 q4 q5 R1 R2 ⊢
    generalize hX2 : (hd (.slice a2 n2 c2) G2 T2 B2 Q2 Z2 m2).toArray = X2 at HM E1 E2 g0 g1 g2 g3 g4 g5 q0 q1 q2 q3 q4 q5 R1 R2 ⊢
    have HX : Hid _ := hX
    have HX2 : Hid _ := hX2
    clear hX hX2
    clear h1 h2 hm hm2
    go_enter Tryz.func10, Tryz.ntmps10
    go_wp2_with (first | ((with_reducible refine at_load 24 ?_); first | (refine wl_loadG (by rfl) rfl rfl Hr.out R1.out ?_; simp only [Act.put, List.setIfInBounds_toArray, List.set_cons_zero, List.set_cons_succ]) | (refine wl_loadG (by rfl) rfl rfl Hr2.out R2.out ?_; simp only [Act.put, List.setIfInBounds_toArray, List.set_cons_zero, List.set_cons_succ])) | (go_at_call 15; refine (same_any _ a a2 n n2 c c2 l l2 (A1.out.calm HM.out.keep) (A2.out.calm HM.out.keep)).mono ?_; rw [HD.out]; rintro e w3 ⟨rfl, h3⟩; have HM : Hid _ := HM.out.calm h3; clear h3; have E1 : Hid _ := h_at HM.out 0 rfl HX.out Hr.out; have E2 : Hid _ := h_at HM.out 1 rfl HX2.out Hr2.out; obtain ⟨g0, g1, g2, g3, g4, g5⟩ := E1.out.cells; obtain ⟨q0, q1, q2, q3, q4, q5⟩ := E2.out.cells; have R1 : Hid _ := E1.out.commit; have R2 : Hid _ := E2.out.commit))
    go_ret
    exact ⟨rfl, HM.out.keep⟩
  have HD : Hid (decide (l = l2) = true) := decide_eq_true el
  clear el
  by_cases eG : G = G2
  case neg =>
    have x1 : (G == G2) = false := by simpa using eG
    have x2 : (G != G2) = true := by simpa using eG
    rw [show smh l G T A Q Z m l2 G2 T2 B2 Q2 Z2 m2 = false from by simp [smh, x1]]
    clear eG
    have A1 : Hid (At w a n l) := h1
    have A2 : Hid (At w a2 n2 l2) := h2
    have Hr : Hid (m.length = 32) := hm
    have Hr2 : Hid (m2.length = 32) := hm2
    have hgd := guard_id
    have HM : Hid (M (fun _ => False) w _ [blk w.heap.size (.cells (hd (.slice a n c) G T A Q Z m).toArray 28), blk (w.heap.size + 1) (.cells (hd (.slice a2 n2 c2) G2 T2 B2 Q2 Z2 m2).toArray 28)]) := ((M.start _ w).alloc (.cells (hd (.slice a n c) G T A Q Z m).toArray 28) rfl).alloc (.cells (hd (.slice a2 n2 c2) G2 T2 B2 Q2 Z2 m2).toArray 28) (by simp)
    have E1 : Hid _ := h_at HM.out 0 rfl rfl hm
    have E2 : Hid _ := h_at HM.out 1 rfl rfl hm2
    obtain ⟨g0, g1, g2, g3, g4, g5⟩ := E1.out.cells
    obtain ⟨q0, q1, q2, q3, q4, q5⟩ := E2.out.cells
    have R1 : Hid _ := E1.out.commit
    have R2 : Hid _ := E2.out.commit
    generalize hX : (hd (.slice a n c) G T A Q Z m).toArray = X at HM E1 E2 g0 g1 g2 g3 g4 g5 q0 q1 q2 q3 q4 q5 R1 R2 ⊢
    generalize hX2 : (hd (.slice a2 n2 c2) G2 T2 B2 Q2 Z2 m2).toArray = X2 at HM E1 E2 g0 g1 g2 g3 g4 g5 q0 q1 q2 q3 q4 q5 R1 R2 ⊢
    have HX : Hid _ := hX
    have HX2 : Hid _ := hX2
    clear hX hX2
    clear h1 h2 hm hm2
    go_enter Tryz.func10, Tryz.ntmps10
    go_wp2_with (first | ((with_reducible refine at_load 24 ?_); first | (refine wl_loadG (by rfl) rfl rfl Hr.out R1.out ?_; simp only [Act.put, List.setIfInBounds_toArray, List.set_cons_zero, List.set_cons_succ]) | (refine wl_loadG (by rfl) rfl rfl Hr2.out R2.out ?_; simp only [Act.put, List.setIfInBounds_toArray, List.set_cons_zero, List.set_cons_succ])) | (go_at_call 15; refine (same_any _ a a2 n n2 c c2 l l2 (A1.out.calm HM.out.keep) (A2.out.calm HM.out.keep)).mono ?_; rw [HD.out]; rintro e w3 ⟨rfl, h3⟩; have HM : Hid _ := HM.out.calm h3; clear h3; have E1 : Hid _ := h_at HM.out 0 rfl HX.out Hr.out; have E2 : Hid _ := h_at HM.out 1 rfl HX2.out Hr2.out; obtain ⟨g0, g1, g2, g3, g4, g5⟩ := E1.out.cells; obtain ⟨q0, q1, q2, q3, q4, q5⟩ := E2.out.cells; have R1 : Hid _ := E1.out.commit; have R2 : Hid _ := E2.out.commit))
    go_ret
    exact ⟨rfl, HM.out.keep⟩
  have x1 : (G == G2) = true := by simpa using eG
  have x2 : (G != G2) = false := by simpa using eG
  by_cases eT : T.toList = T2.toList
  case neg =>
    rw [show smh l G T A Q Z m l2 G2 T2 B2 Q2 Z2 m2 = false from by simp [smh, eT]]
    clear eG
    have A1 : Hid (At w a n l) := h1
    have A2 : Hid (At w a2 n2 l2) := h2
    have Hr : Hid (m.length = 32) := hm
    have Hr2 : Hid (m2.length = 32) := hm2
    have hgd := guard_id
    have HM : Hid (M (fun _ => False) w _ [blk w.heap.size (.cells (hd (.slice a n c) G T A Q Z m).toArray 28), blk (w.heap.size + 1) (.cells (hd (.slice a2 n2 c2) G2 T2 B2 Q2 Z2 m2).toArray 28)]) := ((M.start _ w).alloc (.cells (hd (.slice a n c) G T A Q Z m).toArray 28) rfl).alloc (.cells (hd (.slice a2 n2 c2) G2 T2 B2 Q2 Z2 m2).toArray 28) (by simp)
    have E1 : Hid _ := h_at HM.out 0 rfl rfl hm
    have E2 : Hid _ := h_at HM.out 1 rfl rfl hm2
    obtain ⟨g0, g1, g2, g3, g4, g5⟩ := E1.out.cells
    obtain ⟨q0, q1, q2, q3, q4, q5⟩ := E2.out.cells
    have R1 : Hid _ := E1.out.commit
    have R2 : Hid _ := E2.out.commit
    generalize hX : (hd (.slice a n c) G T A Q Z m).toArray = X at HM E1 E2 g0 g1 g2 g3 g4 g5 q0 q1 q2 q3 q4 q5 R1 R2 ⊢
    generalize hX2 : (hd (.slice a2 n2 c2) G2 T2 B2 Q2 Z2 m2).toArray = X2 at HM E1 E2 g0 g1 g2 g3 g4 g5 q0 q1 q2 q3 q4 q5 R1 R2 ⊢
    have HX : Hid _ := hX
    have HX2 : Hid _ := hX2
    clear hX hX2
    clear h1 h2 hm hm2
    go_enter Tryz.func10, Tryz.ntmps10
    go_wp2_with (first | ((with_reducible refine at_load 24 ?_); first | (refine wl_loadG (by rfl) rfl rfl Hr.out R1.out ?_; simp only [Act.put, List.setIfInBounds_toArray, List.set_cons_zero, List.set_cons_succ]) | (refine wl_loadG (by rfl) rfl rfl Hr2.out R2.out ?_; simp only [Act.put, List.setIfInBounds_toArray, List.set_cons_zero, List.set_cons_succ])) | (go_at_call 15; refine (same_any _ a a2 n n2 c c2 l l2 (A1.out.calm HM.out.keep) (A2.out.calm HM.out.keep)).mono ?_; rw [HD.out]; rintro e w3 ⟨rfl, h3⟩; have HM : Hid _ := HM.out.calm h3; clear h3; have E1 : Hid _ := h_at HM.out 0 rfl HX.out Hr.out; have E2 : Hid _ := h_at HM.out 1 rfl HX2.out Hr2.out; obtain ⟨g0, g1, g2, g3, g4, g5⟩ := E1.out.cells; obtain ⟨q0, q1, q2, q3, q4, q5⟩ := E2.out.cells; have R1 : Hid _ := E1.out.commit; have R2 : Hid _ := E2.out.commit))
    go_ret
    exact ⟨rfl, HM.out.keep⟩
  by_cases eA : A = B2
  case neg =>
    have x3 : (A == B2) = false := by simpa using eA
    have x4 : (A != B2) = true := by simpa using eA
    rw [show smh l G T A Q Z m l2 G2 T2 B2 Q2 Z2 m2 = false from by simp [smh, x3]]
    clear eG eA
    have A1 : Hid (At w a n l) := h1
    have A2 : Hid (At w a2 n2 l2) := h2
    have Hr : Hid (m.length = 32) := hm
    have Hr2 : Hid (m2.length = 32) := hm2
    have hgd := guard_id
    have HM : Hid (M (fun _ => False) w _ [blk w.heap.size (.cells (hd (.slice a n c) G T A Q Z m).toArray 28), blk (w.heap.size + 1) (.cells (hd (.slice a2 n2 c2) G2 T2 B2 Q2 Z2 m2).toArray 28)]) := ((M.start _ w).alloc (.cells (hd (.slice a n c) G T A Q Z m).toArray 28) rfl).alloc (.cells (hd (.slice a2 n2 c2) G2 T2 B2 Q2 Z2 m2).toArray 28) (by simp)
    have E1 : Hid _ := h_at HM.out 0 rfl rfl hm
    have E2 : Hid _ := h_at HM.out 1 rfl rfl hm2
    obtain ⟨g0, g1, g2, g3, g4, g5⟩ := E1.out.cells
    obtain ⟨q0, q1, q2, q3, q4, q5⟩ := E2.out.cells
    have R1 : Hid _ := E1.out.commit
    have R2 : Hid _ := E2.out.commit
    generalize hX : (hd (.slice a n c) G T A Q Z m).toArray = X at HM E1 E2 g0 g1 g2 g3 g4 g5 q0 q1 q2 q3 q4 q5 R1 R2 ⊢
    generalize hX2 : (hd (.slice a2 n2 c2) G2 T2 B2 Q2 Z2 m2).toArray = X2 at HM E1 E2 g0 g1 g2 g3 g4 g5 q0 q1 q2 q3 q4 q5 R1 R2 ⊢
    have HX : Hid _ := hX
    have HX2 : Hid _ := hX2
    clear hX hX2
    clear h1 h2 hm hm2
    go_enter Tryz.func10, Tryz.ntmps10
    go_wp2_with (first | ((with_reducible refine at_load 24 ?_); first | (refine wl_loadG (by rfl) rfl rfl Hr.out R1.out ?_; simp only [Act.put, List.setIfInBounds_toArray, List.set_cons_zero, List.set_cons_succ]) | (refine wl_loadG (by rfl) rfl rfl Hr2.out R2.out ?_; simp only [Act.put, List.setIfInBounds_toArray, List.set_cons_zero, List.set_cons_succ])) | (go_at_call 15; refine (same_any _ a a2 n n2 c c2 l l2 (A1.out.calm HM.out.keep) (A2.out.calm HM.out.keep)).mono ?_; rw [HD.out]; rintro e w3 ⟨rfl, h3⟩; have HM : Hid _ := HM.out.calm h3; clear h3; have E1 : Hid _ := h_at HM.out 0 rfl HX.out Hr.out; have E2 : Hid _ := h_at HM.out 1 rfl HX2.out Hr2.out; obtain ⟨g0, g1, g2, g3, g4, g5⟩ := E1.out.cells; obtain ⟨q0, q1, q2, q3, q4, q5⟩ := E2.out.cells; have R1 : Hid _ := E1.out.commit; have R2 : Hid _ := E2.out.commit))
    go_ret
    exact ⟨rfl, HM.out.keep⟩
  have x3 : (A == B2) = true := by simpa using eA
  have x4 : (A != B2) = false := by simpa using eA
  by_cases eQ : Q = Q2
  case neg =>
    have x5 : (Q == Q2) = false := by simpa using eQ
    have x6 : (Q != Q2) = true := by simpa using eQ
    rw [show smh l G T A Q Z m l2 G2 T2 B2 Q2 Z2 m2 = false from by simp [smh, x5]]
    clear eG eA eQ
    have A1 : Hid (At w a n l) := h1
    have A2 : Hid (At w a2 n2 l2) := h2
    have Hr : Hid (m.length = 32) := hm
    have Hr2 : Hid (m2.length = 32) := hm2
    have hgd := guard_id
    have HM : Hid (M (fun _ => False) w _ [blk w.heap.size (.cells (hd (.slice a n c) G T A Q Z m).toArray 28), blk (w.heap.size + 1) (.cells (hd (.slice a2 n2 c2) G2 T2 B2 Q2 Z2 m2).toArray 28)]) := ((M.start _ w).alloc (.cells (hd (.slice a n c) G T A Q Z m).toArray 28) rfl).alloc (.cells (hd (.slice a2 n2 c2) G2 T2 B2 Q2 Z2 m2).toArray 28) (by simp)
    have E1 : Hid _ := h_at HM.out 0 rfl rfl hm
    have E2 : Hid _ := h_at HM.out 1 rfl rfl hm2
    obtain ⟨g0, g1, g2, g3, g4, g5⟩ := E1.out.cells
    obtain ⟨q0, q1, q2, q3, q4, q5⟩ := E2.out.cells
    have R1 : Hid _ := E1.out.commit
    have R2 : Hid _ := E2.out.commit
    generalize hX : (hd (.slice a n c) G T A Q Z m).toArray = X at HM E1 E2 g0 g1 g2 g3 g4 g5 q0 q1 q2 q3 q4 q5 R1 R2 ⊢
    generalize hX2 : (hd (.slice a2 n2 c2) G2 T2 B2 Q2 Z2 m2).toArray = X2 at HM E1 E2 g0 g1 g2 g3 g4 g5 q0 q1 q2 q3 q4 q5 R1 R2 ⊢
    have HX : Hid _ := hX
    have HX2 : Hid _ := hX2
    clear hX hX2
    clear h1 h2 hm hm2
    go_enter Tryz.func10, Tryz.ntmps10
    go_wp2_with (first | ((with_reducible refine at_load 24 ?_); first | (refine wl_loadG (by rfl) rfl rfl Hr.out R1.out ?_; simp only [Act.put, List.setIfInBounds_toArray, List.set_cons_zero, List.set_cons_succ]) | (refine wl_loadG (by rfl) rfl rfl Hr2.out R2.out ?_; simp only [Act.put, List.setIfInBounds_toArray, List.set_cons_zero, List.set_cons_succ])) | (go_at_call 15; refine (same_any _ a a2 n n2 c c2 l l2 (A1.out.calm HM.out.keep) (A2.out.calm HM.out.keep)).mono ?_; rw [HD.out]; rintro e w3 ⟨rfl, h3⟩; have HM : Hid _ := HM.out.calm h3; clear h3; have E1 : Hid _ := h_at HM.out 0 rfl HX.out Hr.out; have E2 : Hid _ := h_at HM.out 1 rfl HX2.out Hr2.out; obtain ⟨g0, g1, g2, g3, g4, g5⟩ := E1.out.cells; obtain ⟨q0, q1, q2, q3, q4, q5⟩ := E2.out.cells; have R1 : Hid _ := E1.out.commit; have R2 : Hid _ := E2.out.commit))
    go_ret
    exact ⟨rfl, HM.out.keep⟩
  have x5 : (Q == Q2) = true := by simpa using eQ
  have x6 : (Q != Q2) = false := by simpa using eQ
  by_cases eZ : Z = Z2
  case neg =>
    have x7 : (Z == Z2) = false := by simpa using eZ
    have x8 : (Z != Z2) = true := by simpa using eZ
    rw [show smh l G T A Q Z m l2 G2 T2 B2 Q2 Z2 m2 = false from by simp [smh, x7]]
    clear eG eA eQ eZ
    have A1 : Hid (At w a n l) := h1
    have A2 : Hid (At w a2 n2 l2) := h2
    have Hr : Hid (m.length = 32) := hm
    have Hr2 : Hid (m2.length = 32) := hm2
    have hgd := guard_id
    have HM : Hid (M (fun _ => False) w _ [blk w.heap.size (.cells (hd (.slice a n c) G T A Q Z m).toArray 28), blk (w.heap.size + 1) (.cells (hd (.slice a2 n2 c2) G2 T2 B2 Q2 Z2 m2).toArray 28)]) := ((M.start _ w).alloc (.cells (hd (.slice a n c) G T A Q Z m).toArray 28) rfl).alloc (.cells (hd (.slice a2 n2 c2) G2 T2 B2 Q2 Z2 m2).toArray 28) (by simp)
    have E1 : Hid _ := h_at HM.out 0 rfl rfl hm
    have E2 : Hid _ := h_at HM.out 1 rfl rfl hm2
    obtain ⟨g0, g1, g2, g3, g4, g5⟩ := E1.out.cells
    obtain ⟨q0, q1, q2, q3, q4, q5⟩ := E2.out.cells
    have R1 : Hid _ := E1.out.commit
    have R2 : Hid _ := E2.out.commit
    generalize hX : (hd (.slice a n c) G T A Q Z m).toArray = X at HM E1 E2 g0 g1 g2 g3 g4 g5 q0 q1 q2 q3 q4 q5 R1 R2 ⊢
    generalize hX2 : (hd (.slice a2 n2 c2) G2 T2 B2 Q2 Z2 m2).toArray = X2 at HM E1 E2 g0 g1 g2 g3 g4 g5 q0 q1 q2 q3 q4 q5 R1 R2 ⊢
    have HX : Hid _ := hX
    have HX2 : Hid _ := hX2
    clear hX hX2
    clear h1 h2 hm hm2
    go_enter Tryz.func10, Tryz.ntmps10
    go_wp2_with (first | ((with_reducible refine at_load 24 ?_); first | (refine wl_loadG (by rfl) rfl rfl Hr.out R1.out ?_; simp only [Act.put, List.setIfInBounds_toArray, List.set_cons_zero, List.set_cons_succ]) | (refine wl_loadG (by rfl) rfl rfl Hr2.out R2.out ?_; simp only [Act.put, List.setIfInBounds_toArray, List.set_cons_zero, List.set_cons_succ])) | (go_at_call 15; refine (same_any _ a a2 n n2 c c2 l l2 (A1.out.calm HM.out.keep) (A2.out.calm HM.out.keep)).mono ?_; rw [HD.out]; rintro e w3 ⟨rfl, h3⟩; have HM : Hid _ := HM.out.calm h3; clear h3; have E1 : Hid _ := h_at HM.out 0 rfl HX.out Hr.out; have E2 : Hid _ := h_at HM.out 1 rfl HX2.out Hr2.out; obtain ⟨g0, g1, g2, g3, g4, g5⟩ := E1.out.cells; obtain ⟨q0, q1, q2, q3, q4, q5⟩ := E2.out.cells; have R1 : Hid _ := E1.out.commit; have R2 : Hid _ := E2.out.commit))
    go_ret
    exact ⟨rfl, HM.out.keep⟩
  have x7 : (Z == Z2) = true := by simpa using eZ
  have x8 : (Z != Z2) = false := by simpa using eZ
  by_cases em : m = m2
  case neg =>
    have r1 : (m == m2) = false := by simpa using em
    rw [show smh l G T A Q Z m l2 G2 T2 B2 Q2 Z2 m2 = false from by simp [smh, r1]]
    have hcmp1 : ∀ w, Sem.run Tryz.prog (binOp .neq 24 (idv m) (idv m2)) w = .ok (.bool true) w := fun w => by rw [neq_id w m m2 hm hm2, r1]; rfl
    have hcmp2 : ∀ w, Sem.run Tryz.prog (binOp .eql 24 (idv m) (idv m2)) w = .ok (.bool false) w := fun w => by rw [eql_id w m m2 hm hm2, r1]
    clear eG eA eQ eZ em r1
    have A1 : Hid (At w a n l) := h1
    have A2 : Hid (At w a2 n2 l2) := h2
    have Hr : Hid (m.length = 32) := hm
    have Hr2 : Hid (m2.length = 32) := hm2
    have hgd := guard_id
    have HM : Hid (M (fun _ => False) w _ [blk w.heap.size (.cells (hd (.slice a n c) G T A Q Z m).toArray 28), blk (w.heap.size + 1) (.cells (hd (.slice a2 n2 c2) G2 T2 B2 Q2 Z2 m2).toArray 28)]) := ((M.start _ w).alloc (.cells (hd (.slice a n c) G T A Q Z m).toArray 28) rfl).alloc (.cells (hd (.slice a2 n2 c2) G2 T2 B2 Q2 Z2 m2).toArray 28) (by simp)
    have E1 : Hid _ := h_at HM.out 0 rfl rfl hm
    have E2 : Hid _ := h_at HM.out 1 rfl rfl hm2
    obtain ⟨g0, g1, g2, g3, g4, g5⟩ := E1.out.cells
    obtain ⟨q0, q1, q2, q3, q4, q5⟩ := E2.out.cells
    have R1 : Hid _ := E1.out.commit
    have R2 : Hid _ := E2.out.commit
    generalize hX : (hd (.slice a n c) G T A Q Z m).toArray = X at HM E1 E2 g0 g1 g2 g3 g4 g5 q0 q1 q2 q3 q4 q5 R1 R2 ⊢
    generalize hX2 : (hd (.slice a2 n2 c2) G2 T2 B2 Q2 Z2 m2).toArray = X2 at HM E1 E2 g0 g1 g2 g3 g4 g5 q0 q1 q2 q3 q4 q5 R1 R2 ⊢
    have HX : Hid _ := hX
    have HX2 : Hid _ := hX2
    clear hX hX2
    clear h1 h2 hm hm2
    go_enter Tryz.func10, Tryz.ntmps10
    go_wp2_with (first | ((with_reducible refine at_load 24 ?_); first | (refine wl_loadG (by rfl) rfl rfl Hr.out R1.out ?_; simp only [Act.put, List.setIfInBounds_toArray, List.set_cons_zero, List.set_cons_succ]) | (refine wl_loadG (by rfl) rfl rfl Hr2.out R2.out ?_; simp only [Act.put, List.setIfInBounds_toArray, List.set_cons_zero, List.set_cons_succ])) | (go_at_call 15; refine (same_any _ a a2 n n2 c c2 l l2 (A1.out.calm HM.out.keep) (A2.out.calm HM.out.keep)).mono ?_; rw [HD.out]; rintro e w3 ⟨rfl, h3⟩; have HM : Hid _ := HM.out.calm h3; clear h3; have E1 : Hid _ := h_at HM.out 0 rfl HX.out Hr.out; have E2 : Hid _ := h_at HM.out 1 rfl HX2.out Hr2.out; obtain ⟨g0, g1, g2, g3, g4, g5⟩ := E1.out.cells; obtain ⟨q0, q1, q2, q3, q4, q5⟩ := E2.out.cells; have R1 : Hid _ := E1.out.commit; have R2 : Hid _ := E2.out.commit))
    go_ret
    exact ⟨rfl, HM.out.keep⟩
  have r1 : (m == m2) = true := by simpa using em
  have hcmp1 : ∀ w, Sem.run Tryz.prog (binOp .neq 24 (idv m) (idv m2)) w = .ok (.bool false) w := fun w => by rw [neq_id w m m2 hm hm2, r1]; rfl
  have hcmp2 : ∀ w, Sem.run Tryz.prog (binOp .eql 24 (idv m) (idv m2)) w = .ok (.bool true) w := fun w => by rw [eql_id w m m2 hm hm2, r1]
  rw [show smh l G T A Q Z m l2 G2 T2 B2 Q2 Z2 m2 = decide (l = l2) from by simp [smh, x1, eT, x3, x5, x7, r1]]
  clear eG eA eQ eZ em r1
  rw [HD.out]
  have A1 : Hid (At w a n l) := h1
  have A2 : Hid (At w a2 n2 l2) := h2
  have Hr : Hid (m.length = 32) := hm
  have Hr2 : Hid (m2.length = 32) := hm2
  have hgd := guard_id
  have HM : Hid (M (fun _ => False) w _ [blk w.heap.size (.cells (hd (.slice a n c) G T A Q Z m).toArray 28), blk (w.heap.size + 1) (.cells (hd (.slice a2 n2 c2) G2 T2 B2 Q2 Z2 m2).toArray 28)]) := ((M.start _ w).alloc (.cells (hd (.slice a n c) G T A Q Z m).toArray 28) rfl).alloc (.cells (hd (.slice a2 n2 c2) G2 T2 B2 Q2 Z2 m2).toArray 28) (by simp)
  have E1 : Hid _ := h_at HM.out 0 rfl rfl hm
  have E2 : Hid _ := h_at HM.out 1 rfl rfl hm2
  obtain ⟨g0, g1, g2, g3, g4, g5⟩ := E1.out.cells
  obtain ⟨q0, q1, q2, q3, q4, q5⟩ := E2.out.cells
  have R1 : Hid _ := E1.out.commit
  have R2 : Hid _ := E2.out.commit
  generalize hX : (hd (.slice a n c) G T A Q Z m).toArray = X at HM E1 E2 g0 g1 g2 g3 g4 g5 q0 q1 q2 q3 q4 q5 R1 R2 ⊢
  generalize hX2 : (hd (.slice a2 n2 c2) G2 T2 B2 Q2 Z2 m2).toArray = X2 at HM E1 E2 g0 g1 g2 g3 g4 g5 q0 q1 q2 q3 q4 q5 R1 R2 ⊢
  have HX : Hid _ := hX
  have HX2 : Hid _ := hX2
  clear hX hX2
  clear h1 h2 hm hm2
  go_enter Tryz.func10, Tryz.ntmps10
  go_wp2_with (first | ((with_reducible refine at_load 24 ?_); first | (refine wl_loadG (by rfl) rfl rfl Hr.out R1.out ?_; simp only [Act.put, List.setIfInBounds_toArray, List.set_cons_zero, List.set_cons_succ]) | (refine wl_loadG (by rfl) rfl rfl Hr2.out R2.out ?_; simp only [Act.put, List.setIfInBounds_toArray, List.set_cons_zero, List.set_cons_succ])) | (go_at_call 15; refine (same_any _ a a2 n n2 c c2 l l2 (A1.out.calm HM.out.keep) (A2.out.calm HM.out.keep)).mono ?_; rw [HD.out]; rintro e w3 ⟨rfl, h3⟩; have HM : Hid _ := HM.out.calm h3; clear h3; have E1 : Hid _ := h_at HM.out 0 rfl HX.out Hr.out; have E2 : Hid _ := h_at HM.out 1 rfl HX2.out Hr2.out; obtain ⟨g0, g1, g2, g3, g4, g5⟩ := E1.out.cells; obtain ⟨q0, q1, q2, q3, q4, q5⟩ := E2.out.cells; have R1 : Hid _ := E1.out.commit; have R2 : Hid _ := E2.out.commit))
  go_ret
  exact ⟨rfl, HM.out.keep⟩
end Hd
end Go.Proofs.YtgllkfolckbdhaaGreatDoor
