/-
  petrelref07.Of (5, 6, 7).
-/
import Derived.Test.YtfoplimdbapdfaaDoorOxI
set_option linter.unusedVariables false
set_option linter.unusedSimpArgs false
namespace Go.Proofs.YtfoplimdbapdfaaDoor
open Go.RowKit
namespace Ox
open Oct Ids
open Mem (M blk rd xr ids)
open Ref (endv)

set_option maxRecDepth 100000 in
set_option maxHeartbeats 8000000 in
theorem rof_5 (w : World) (s : ByteArray) (hsz : s.size ≤ maxLen) (n a0 : Nat) (hn : rnum s 0 0 1 = (n, a0, 0)) (hnK : (n : Int) = 5) (Y : ByteArray) (a1 : Nat) (b1 : Int) (h1 : rdT s a0 0 true = (Y, a1, b1)) (V : ByteArray) (a2 : Nat) (b2 : Int) (h2 : rdT s a1 b1 true = (V, a2, b2)) (l : List (List UInt8)) (a3 : Nat) (b3 : Int) (h3 : rdS s a2 b2 true = (l, a3, b3)) (R : OO) (hO : fin (endv s a3 b3) (ck 5 (nv 5 0) Y V Z32 l.length l) 5 (nv 5 0) Y V Z32 l = R) :
    Calls Tryd.prog 13 #[.string s] w (OfPost R w) := by
  have Hn : Hid _ := hn
  have HnK : Hid ((n : Int) = 5) := hnK
  obtain ⟨⟨nY, cY, dY⟩, hq⟩ : ∃ p, rnum s a0 0 1 = p := ⟨_, rfl⟩
  have hr' : rraw s cY dY nY = (Y, a1, b1) := by have := h1; unfold rdT at this; simp only [hq] at this; exact this
  have HnY : Hid _ := hq
  have HrY : Hid _ := hr'
  clear hq hr' h1
  obtain ⟨⟨nV, cV, dV⟩, hq⟩ : ∃ p, rnum s a1 b1 1 = p := ⟨_, rfl⟩
  have hr' : rraw s cV dV nV = (V, a2, b2) := by have := h2; unfold rdT at this; simp only [hq] at this; exact this
  have HnV : Hid _ := hq
  have HrV : Hid _ := hr'
  clear hq hr' h2
  obtain ⟨⟨nS, cS, dS⟩, hq⟩ : ∃ p, rnum s a2 b2 1 = p := ⟨_, rfl⟩
  have hr' : rdIds s cS dS nS = (l, a3, b3) := by have := h3; unfold rdS at this; simp only [hq] at this; exact this
  have hn2 : nS < 256 := by have := rnum1_lt s a2 b2; rw [hq] at this; exact this
  have hll : l.length = nS := by have := rdIds_len s cS dS nS; rw [hr'] at this; exact this
  have HnS : Hid _ := hq
  have HrS : Hid _ := hr'
  have Hll : Hid (l.length = nS) := hll
  clear hq hr' h3
  have Hr : Hid (Z32.length = 32) := (rfl : Z32.length = 32)
  rw [show nv 5 0 = 0 from rfl] at hO
  rw [Hll.out] at hO
  obtain ⟨f, hf⟩ : ∃ f, endv s a3 b3 = f := ⟨_, rfl⟩
  obtain ⟨g, hg⟩ : ∃ g, ck 5 0 Y V Z32 nS l = g := ⟨_, rfl⟩
  rw [hf, hg] at hO
  have Hf : Hid _ := hf
  have Hg : Hid _ := hg
  have HO : Hid _ := hO
  have hh1 : (hs 5).toList.isEmpty = false := by decide +kernel
  have hh2 : ¬ (hs 5).toList = [] := by decide +kernel
  have HM : Hid (M (fun _ => False) w _ [blk w.heap.size (.cells oz0 27), xr (w.heap.size + 1) s 0 0]) := ((M.start (fun _ => False) w).alloc (.cells oz0 27) rfl).xnew s hsz (by simp)
  clear hn hnK hsz hO hf hg
  go_enter Tryd.func13, Tryd.ntmps13
  go_wp2_with (first | (refine St.wl_alloc tyO rfl rfl (by (try simp only [World.size_alloc]); rfl) ?_; simp only [Act.put, List.setIfInBounds_toArray, List.set_cons_zero, List.set_cons_succ]) | (go_at_call 42; refine (xnum_k HM.out 1 rfl Hn.out HnK.out).mono ?_; rintro e w2 ⟨rfl, h1⟩; have HM : Hid _ := (M.alloc h1 (.cells (oc 5 0 ByteArray.empty ByteArray.empty Z32 (.slice none 0 0)).toArray 27) rfl); clear h1; have ge := (HM.out.xcells 1 rfl).2; have c0 := HM.out.cell 2 rfl 0 (v := .int .i64 5) rfl; have c2 := HM.out.cell 2 rfl 2 rfl; have c3 := HM.out.cell 2 rfl 3 rfl; have f1 := HM.out.free 2 rfl 1; have f2 := HM.out.free 2 rfl 2; have f3 := HM.out.free 2 rfl 3) | (refine St.wl_buildV (T := 27) (parts := #[(0, Operand.tmp 15)]) rfl rfl (cs := (oc 5 0 ByteArray.empty ByteArray.empty Z32 (.slice none 0 0)).toArray) (by kernel_rfl) ?_; simp only [Act.put, List.setIfInBounds_toArray, List.set_cons_zero, List.set_cons_succ]) | (refine St.wl_buildV (T := 27) (parts := #[]) rfl rfl (cs := oz0) (by kernel_rfl) ?_; simp only [Act.put, List.setIfInBounds_toArray, List.set_cons_zero, List.set_cons_succ]) | (refine St.wl_storeN tyO rfl rfl rfl rfl rfl (by (try simp only [World.size_alloc])) (show _ = Value.agg (oc 5 0 ByteArray.empty ByteArray.empty Z32 (.slice none 0 0)).toArray from rfl) (oc_sz rfl) (oc_sz rfl) (oc_one _ _ _ _ _ _ _ _) ?_) | (go_at_call 43; refine (has_any _ 5 (by decide)).mono ?_; rintro e w3 ⟨rfl, rfl⟩))
  obtain ⟨ob, hob⟩ : ∃ b, w2.heap.size = b := ⟨_, rfl⟩
  rw [hob] at HM ⊢
  clear hob
  go_loopw [7, 8, 9] (fun i _ _ wr => ∃ k : Nat, k ≤ 3 ∧ i = .int .i64 k ∧ (match k with | 0 => M (fun _ => False) w wr [blk w.heap.size (.cells oz0 27), xr (w.heap.size + 1) s a0 0, blk ob (.cells (oc 5 0 ByteArray.empty ByteArray.empty Z32 (.slice none 0 0)).toArray 27)] | 1 => M (fun _ => False) w wr [blk w.heap.size (.cells oz0 27), xr (w.heap.size + 1) s a1 b1, blk ob (.cells (oc 5 0 Y ByteArray.empty Z32 (.slice none 0 0)).toArray 27)] | 2 => M (fun _ => False) w wr [blk w.heap.size (.cells oz0 27), xr (w.heap.size + 1) s a2 b2, blk ob (.cells (oc 5 0 Y V Z32 (.slice none 0 0)).toArray 27)] | _ => ∃ va vc, M (fun _ => False) w wr [blk w.heap.size (.cells oz0 27), xr (w.heap.size + 1) s a3 b3, blk ob (.cells (oc 5 0 Y V Z32 (.slice va nS vc)).toArray 27), ids (.slice va nS vc) l])) (fun i _ _ _ => 3 - (intOf i).toNat)
  case atStart => exact ⟨0, Nat.zero_le _, rfl, HM.out⟩
  case round =>
    obtain ⟨k, hk, rfl, hM⟩ := hrel
    rcases (by omega : k = 0 ∨ k = 1 ∨ k = 2 ∨ k = 3) with rfl | rfl | rfl | rfl
    · have HM : Hid (M (fun _ => False) w wr [blk w.heap.size (.cells oz0 27), xr (w.heap.size + 1) s a0 0, blk ob (.cells (oc 5 0 ByteArray.empty ByteArray.empty Z32 (.slice none 0 0)).toArray 27)]) := hM
      clear hM hk
      simp only [show ((0 : Nat) : Int) = 0 from rfl]
      have ge := (HM.out.xcells 1 rfl).2; have c0 := HM.out.cell 2 rfl 0 (v := .int .i64 5) rfl; have c2 := HM.out.cell 2 rfl 2 rfl; have c3 := HM.out.cell 2 rfl 3 rfl; have f1 := HM.out.free 2 rfl 1; have f2 := HM.out.free 2 rfl 2; have f3 := HM.out.free 2 rfl 3
      go_wp2_with (first | (go_at_call 42; refine (M.xnum HM.out 1 rfl HnY.out).mono ?_; rintro e w4 ⟨rfl, h1⟩; have HM : Hid _ := h1; clear h1) | (go_at_call 44; refine (M.xraw HM.out 1 rfl HrY.out).mono ?_; rintro e w5 ⟨rfl, h1⟩; have HM : Hid _ := h1; clear h1; have ge := (HM.out.xcells 1 rfl).2; have c0 := HM.out.cell 2 rfl 0 (v := .int .i64 5) rfl; have c2 := HM.out.cell 2 rfl 2 rfl; have c3 := HM.out.cell 2 rfl 3 rfl; have f1 := HM.out.free 2 rfl 1; have f2 := HM.out.free 2 rfl 2; have f3 := HM.out.free 2 rfl 3; have HM : Hid (M (fun _ => False) w _ [blk w.heap.size (.cells oz0 27), xr (w.heap.size + 1) s a1 b1, blk ob (.cells (oc 5 0 Y ByteArray.empty Z32 (.slice none 0 0)).toArray 27)]) := HM.out.setc 2 rfl 2 (.string Y)))
      go_roundw
      case rel => exact ⟨1, by omega, rfl, HM.out⟩
      case measure => simp [intOf]
    · have HM : Hid (M (fun _ => False) w wr [blk w.heap.size (.cells oz0 27), xr (w.heap.size + 1) s a1 b1, blk ob (.cells (oc 5 0 Y ByteArray.empty Z32 (.slice none 0 0)).toArray 27)]) := hM
      clear hM hk
      simp only [show ((1 : Nat) : Int) = 1 from rfl]
      have ge := (HM.out.xcells 1 rfl).2; have c0 := HM.out.cell 2 rfl 0 (v := .int .i64 5) rfl; have c2 := HM.out.cell 2 rfl 2 rfl; have c3 := HM.out.cell 2 rfl 3 rfl; have f1 := HM.out.free 2 rfl 1; have f2 := HM.out.free 2 rfl 2; have f3 := HM.out.free 2 rfl 3
      go_wp2_with (first | (go_at_call 42; refine (M.xnum HM.out 1 rfl HnV.out).mono ?_; rintro e w4 ⟨rfl, h1⟩; have HM : Hid _ := h1; clear h1) | (go_at_call 44; refine (M.xraw HM.out 1 rfl HrV.out).mono ?_; rintro e w5 ⟨rfl, h1⟩; have HM : Hid _ := h1; clear h1; have ge := (HM.out.xcells 1 rfl).2; have c0 := HM.out.cell 2 rfl 0 (v := .int .i64 5) rfl; have c2 := HM.out.cell 2 rfl 2 rfl; have c3 := HM.out.cell 2 rfl 3 rfl; have f1 := HM.out.free 2 rfl 1; have f2 := HM.out.free 2 rfl 2; have f3 := HM.out.free 2 rfl 3; have HM : Hid (M (fun _ => False) w _ [blk w.heap.size (.cells oz0 27), xr (w.heap.size + 1) s a2 b2, blk ob (.cells (oc 5 0 Y V Z32 (.slice none 0 0)).toArray 27)]) := HM.out.setc 2 rfl 3 (.string V)))
      go_roundw
      case rel => exact ⟨2, by omega, rfl, HM.out⟩
      case measure => simp [intOf]
    · have HM : Hid (M (fun _ => False) w wr [blk w.heap.size (.cells oz0 27), xr (w.heap.size + 1) s a2 b2, blk ob (.cells (oc 5 0 Y V Z32 (.slice none 0 0)).toArray 27)]) := hM
      clear hM hk
      simp only [show ((2 : Nat) : Int) = 2 from rfl]
      have ge := (HM.out.xcells 1 rfl).2; have c0 := HM.out.cell 2 rfl 0 (v := .int .i64 5) rfl; have c2 := HM.out.cell 2 rfl 2 rfl; have c3 := HM.out.cell 2 rfl 3 rfl; have f1 := HM.out.free 2 rfl 1; have f2 := HM.out.free 2 rfl 2; have f3 := HM.out.free 2 rfl 3
      go_wp2_with (first | (go_at_call 42; refine (M.xnum HM.out 1 rfl HnS.out).mono ?_; rintro e w4 ⟨rfl, h1⟩; have HM : Hid _ := h1; clear h1))
      go_loopw [9] (fun i wr => ∃ (k : Nat) (va : Option Addr) (vc : Nat), k ≤ nS ∧ i = .int .i64 k ∧ M (fun _ => False) w wr [blk w.heap.size (.cells oz0 27), xr (w.heap.size + 1) s (rdIds s cS dS k).2.1 (rdIds s cS dS k).2.2, blk ob (.cells (oc 5 0 Y V Z32 (.slice va k vc)).toArray 27), ids (.slice va k vc) (rdIds s cS dS k).1]) (fun i _ => nS - (intOf i).toNat)
      case atStart => exact ⟨0, none, 0, Nat.zero_le _, rfl, HM.out.nilI⟩
      case round =>
        obtain ⟨k, va, vc, hk, rfl, hrel⟩ := hrel
        have HM : Hid _ := hrel
        clear hrel
        by_cases hlt : k < nS
        · obtain ⟨p, hp⟩ : ∃ p, rdIds s cS dS k = p := ⟨_, rfl⟩
          obtain ⟨l9, a9, b9⟩ := p
          obtain ⟨q, hq⟩ : ∃ q, rraw s a9 b9 32 = q := ⟨_, rfl⟩
          obtain ⟨x9, a8, b8⟩ := q
          have hx9 : x9.size ≤ 32 := by have := rraw_32 s a9 b9; rw [hq] at this; exact this
          have hll : l9.length = k := by have := rdIds_len s cS dS k; rw [hp] at this; exact this
          have HS2 : Hid _ := rdIds_step hp hq
          have Hq : Hid _ := hq
          have HM : Hid (M (fun _ => False) w wr [blk w.heap.size (.cells oz0 27), xr (w.heap.size + 1) s a9 b9, blk ob (.cells (oc 5 0 Y V Z32 (.slice va k vc)).toArray 27), ids (.slice va k vc) l9]) := by have := HM.out; rw [hp] at this; exact this
          have Hpl : Hid _ := pad_len x9.data.toList (by rw [Array.length_toList]; exact hx9)
          have g36 : wr.cell? ⟨ob, 36, none⟩ = some (.slice va k vc) := HM.out.cell 2 rfl 36 (oc_36 _ _ _ _ _ _ Hr.out)
          clear hp hq
          go_wp2
          refine Txt.wp_region_text1 (fun w' => w'.cell? ⟨ob, 36, none⟩ = some (.slice va k vc)) [0, 2, 0, 4, 3, 4, 0, 4] (by kernel_rfl) (by kernel_rfl) g36 ?_
          simp only [List.dropLast]
          repeat (first
            | (refine Txt.tl_pure (v := ?_) (by rfl) ?_ ?_; rotate_left; (focus (intro _; go_simp; try with_reducible rfl)); simp only [Act.put, List.setIfInBounds_toArray, List.set_cons_zero, List.set_cons_succ])
            | (refine Txt.tl_skip (by rfl) trivial ?_; simp only [Act.put, List.setIfInBounds_toArray, List.set_cons_zero, List.set_cons_succ])
            | (refine Txt.tl_load (v := ?_) (by rfl) (by rfl) (by rfl) (by kernel_rfl) ?_ ?_; rotate_left; (focus (first | assumption | (go_simp; done) | (go_simp; with_reducible rfl))); simp only [Act.put, List.setIfInBounds_toArray, List.set_cons_zero, List.set_cons_succ])
            | (refine Txt.tl_alloc (by rfl) ?_; go_simp; refine ⟨by (first | exact Txt.Le.alloc_drew _ _ | exact Txt.Le.alloc _ _), ?_⟩))
          refine Txt.tl_loadS (v := .slice va k vc) (by rfl) (by rfl) (by rfl) (by kernel_rfl) (fun _ h => h) ?_
          simp only [Act.put, List.setIfInBounds_toArray, List.set_cons_zero, List.set_cons_succ]
          repeat (first
            | (refine Txt.tl_pure (v := ?_) (by rfl) ?_ ?_; rotate_left; (focus (intro _; go_simp; try with_reducible rfl)); simp only [Act.put, List.setIfInBounds_toArray, List.set_cons_zero, List.set_cons_succ])
            | (refine Txt.tl_skip (by rfl) trivial ?_; simp only [Act.put, List.setIfInBounds_toArray, List.set_cons_zero, List.set_cons_succ])
            | (refine Txt.tl_load (v := ?_) (by rfl) (by rfl) (by rfl) (by kernel_rfl) ?_ ?_; rotate_left; (focus (first | assumption | (go_simp; done) | (go_simp; with_reducible rfl))); simp only [Act.put, List.setIfInBounds_toArray, List.set_cons_zero, List.set_cons_succ])
            | (refine Txt.tl_alloc (by rfl) ?_; go_simp; refine ⟨by (first | exact Txt.Le.alloc_drew _ _ | exact Txt.Le.alloc _ _), ?_⟩))
          refine Txt.tl_call Tryd.func45 (by kernel_rfl) (by kernel_rfl) (by rfl) (by rfl) (by rfl) (M.xid HM.out.drew 1 rfl Hq.out) ?_
          rintro e w6 ⟨rfl, h1⟩
          have HM : Hid _ := h1
          clear h1
          refine ⟨_, rfl, HM.out.cell 2 rfl 36 (oc_36 _ _ _ _ _ _ Hr.out), ?_⟩
          simp only [Act.put, List.setIfInBounds_toArray, List.set_cons_zero, List.set_cons_succ]
          repeat (first
            | (refine Txt.tl_pure (v := ?_) (by rfl) ?_ ?_; rotate_left; (focus (intro _; go_simp; try with_reducible rfl)); simp only [Act.put, List.setIfInBounds_toArray, List.set_cons_zero, List.set_cons_succ])
            | (refine Txt.tl_skip (by rfl) trivial ?_; simp only [Act.put, List.setIfInBounds_toArray, List.set_cons_zero, List.set_cons_succ])
            | (refine Txt.tl_load (v := ?_) (by rfl) (by rfl) (by rfl) (by kernel_rfl) ?_ ?_; rotate_left; (focus (first | assumption | (go_simp; done) | (go_simp; with_reducible rfl))); simp only [Act.put, List.setIfInBounds_toArray, List.set_cons_zero, List.set_cons_succ])
            | (refine Txt.tl_alloc (by rfl) ?_; go_simp; refine ⟨by (first | exact Txt.Le.alloc_drew _ _ | exact Txt.Le.alloc _ _), ?_⟩))
          refine Txt.tl_alloc (by rfl) ?_
          refine Ids.wp_build rfl Hpl.out rfl ?_
          have HM : Hid _ := HM.out.alloc (.cells ((pad x9.data.toList).map bv).toArray 24) rfl
          refine ⟨⟨Txt.Le.alloc _ _, HM.out.cell 2 rfl 36 (oc_36 _ _ _ _ _ _ Hr.out)⟩, ?_⟩
          simp only [Act.put, List.setIfInBounds_toArray, List.set_cons_zero, List.set_cons_succ]
          refine Txt.tl_loud (by rfl) ?_
          refine wp_app1 rfl rfl (HM.out.get 3 rfl) rfl Hpl.out (heap_alloc_new _ _) (by omega) ?_
          intro v' w7 h1 k1 h3
          obtain ⟨ya, yc, hy, _, _⟩ := h1.at
          rw [List.length_append, hll] at hy
          have HM : Hid _ := (HM.out.appI 3 rfl h1 k1 h3).take 4
          clear h1 k1 h3
          subst hy
          refine ⟨HM.out.cell 2 rfl 36 (oc_36 _ _ _ _ _ _ Hr.out), ?_⟩
          simp only [Act.put, List.setIfInBounds_toArray, List.set_cons_zero, List.set_cons_succ]
          repeat (first
            | (refine Txt.tl_pure (v := ?_) (by rfl) ?_ ?_; rotate_left; (focus (intro _; go_simp; try with_reducible rfl)); simp only [Act.put, List.setIfInBounds_toArray, List.set_cons_zero, List.set_cons_succ])
            | (refine Txt.tl_skip (by rfl) trivial ?_; simp only [Act.put, List.setIfInBounds_toArray, List.set_cons_zero, List.set_cons_succ])
            | (refine Txt.tl_load (v := ?_) (by rfl) (by rfl) (by rfl) (by kernel_rfl) ?_ ?_; rotate_left; (focus (first | assumption | (go_simp; done) | (go_simp; with_reducible rfl))); simp only [Act.put, List.setIfInBounds_toArray, List.set_cons_zero, List.set_cons_succ])
            | (refine Txt.tl_alloc (by rfl) ?_; go_simp; refine ⟨by (first | exact Txt.Le.alloc_drew _ _ | exact Txt.Le.alloc _ _), ?_⟩))
          refine Txt.tl_nil ?_
          refine Txt.tl_last (by rfl) (by rfl) ?_
          have f36 := HM.out.free 2 rfl 36
          have g36' := HM.out.cell 2 rfl 36 (oc_36 _ _ _ _ _ _ Hr.out)
          go_simp
          go_wp2
          go_roundw
          case rel => exact ⟨k + 1, ya, yc, by omega, rfl, by rw [HS2.out]; exact set_refs HM.out 2 rfl Hr.out _⟩
          case measure => simp [intOf]; omega
        · obtain rfl : k = nS := by omega
          have HM : Hid (M (fun _ => False) w wr [blk w.heap.size (.cells oz0 27), xr (w.heap.size + 1) s a3 b3, blk ob (.cells (oc 5 0 Y V Z32 (.slice va k vc)).toArray 27), ids (.slice va k vc) l]) := by have := HM.out; rw [HrS.out] at this; exact this
          go_wp2
          go_roundw
          case rel => exact ⟨3, by omega, rfl, va, vc, HM.out⟩
          case measure => simp [intOf]
    · obtain ⟨va, vc, hM⟩ := hM
      have HM : Hid (M (fun _ => False) w wr [blk w.heap.size (.cells oz0 27), xr (w.heap.size + 1) s a3 b3, blk ob (.cells (oc 5 0 Y V Z32 (.slice va nS vc)).toArray 27), ids (.slice va nS vc) l]) := hM
      clear hM hk
      simp only [show ((3 : Nat) : Int) = 3 from rfl]
      have ge := (HM.out.xcells 1 rfl).2; have c0 := HM.out.cell 2 rfl 0 (v := .int .i64 5) rfl; have c2 := HM.out.cell 2 rfl 2 rfl; have c3 := HM.out.cell 2 rfl 3 rfl; have f1 := HM.out.free 2 rfl 1; have f2 := HM.out.free 2 rfl 2; have f3 := HM.out.free 2 rfl 3
      go_wp2_with (first | (go_at_call 46; refine (M.xend HM.out 1 rfl Hf.out).mono ?_; rintro e w8 ⟨rfl, rfl⟩) | ((with_reducible refine at_load 27 ?_); refine St.wl_load tyO (by rfl) rfl rfl (HM.out.range 2 rfl) (oc_len _ _ _ _ _ _ Hr.out) ?_; simp only [Act.put, List.setIfInBounds_toArray, List.set_cons_zero, List.set_cons_succ]) | (go_at_call 18; refine (rcheck_any _ 5 0 Y V Z32 va nS vc l Hr.out (ids_atn HM.out 3 rfl Hll.out) g Hg.out).mono ?_; rintro e w9 ⟨rfl, k1⟩; have HM : Hid _ := HM.out.calm k1; clear k1) | (refine St.wl_buildV (T := 27) rfl rfl (cs := oz0) (by kernel_rfl) ?_; simp only [Act.put, List.setIfInBounds_toArray, List.set_cons_zero, List.set_cons_succ]) | (refine St.wl_store tyO rfl rfl rfl rfl (show _ = Value.agg oz0 from rfl) (oc_sz rfl) (oc_one _ _ _ _ _ _ _ _) (HM.out.get 0 rfl) (oc_sz rfl) ?_; have HM : Hid _ := HM.out.setr 0 rfl oz0) | (refine St.wl_store tyO rfl rfl rfl rfl (show _ = Value.agg (oc 5 0 Y V Z32 (.slice va nS vc)).toArray from rfl) (oc_sz Hr.out) (oc_one _ _ _ _ _ _ _ _) (HM.out.get 0 rfl) (oc_sz rfl) ?_; have HM : Hid _ := HM.out.setr 0 rfl (oc 5 0 Y V Z32 (.slice va nS vc)).toArray))
      all_goals first
        | (refine bodyPost_ret (St.res2 tyO rfl _ _ w.heap.size oz0 (oc_sz rfl) rfl (HM.out.get 0 rfl) _ rfl) rfl ?_
           have e := HO.out
           unfold fin at e
           repeat' split at e
           all_goals first | (subst e; exact of_zero rfl HM.out.keep) | (exfalso; simp_all; done))
        | (refine bodyPost_ret (St.res2 tyO rfl _ _ w.heap.size (oc 5 0 Y V Z32 (.slice va nS vc)).toArray (oc_sz Hr.out) rfl (HM.out.get 0 rfl) _ rfl) rfl ?_
           have e := HO.out
           unfold fin at e
           repeat' split at e
           all_goals first | (subst e; exact ⟨.slice va nS vc, rfl, HM.out.get 3 rfl, HM.out.keep, fun k hk => (HM.out.rng 3 _ rfl k hk).1.resolve_right (fun h => h)⟩) | (exfalso; simp_all; done))
set_option maxRecDepth 100000 in
set_option maxHeartbeats 8000000 in
theorem rof_6 (w : World) (s : ByteArray) (hsz : s.size ≤ maxLen) (n a0 : Nat) (hn : rnum s 0 0 1 = (n, a0, 0)) (hnK : (n : Int) = 6) (r : List UInt8) (a1 : Nat) (b1 : Int) (h1 : rdR s a0 0 true = (r, a1, b1)) (V : ByteArray) (a2 : Nat) (b2 : Int) (h2 : rdT s a1 b1 true = (V, a2, b2)) (R : OO) (hO : fin (endv s a2 b2) (ck 6 (nv 6 0) ByteArray.empty V r 0 []) 6 (nv 6 0) ByteArray.empty V r [] = R) :
    Calls Tryd.prog 13 #[.string s] w (OfPost R w) := by
  have Hn : Hid _ := hn
  have HnK : Hid ((n : Int) = 6) := hnK
  obtain ⟨⟨x, a9, b9⟩, hx⟩ : ∃ p, rraw s a0 0 32 = p := ⟨_, rfl⟩
  have h' : (pad x.data.toList, a9, b9) = (r, a1, b1) := by have := h1; unfold rdR at this; simp only [hx] at this; exact this
  simp only [Prod.mk.injEq] at h'
  obtain ⟨e1, e2, e3⟩ := h'
  replace e2 := e2.symm
  replace e3 := e3.symm
  subst e2 e3
  have hx32 : x.size ≤ 32 := by have := rraw_32 s a0 0; rw [hx] at this; exact this
  have Hx : Hid _ := hx
  have Hpx : Hid (pad x.data.toList = r) := e1
  have Hr : Hid (r.length = 32) := by show _ = _; rw [← e1]; exact pad_len x.data.toList (by rw [Array.length_toList]; exact hx32)
  clear hx h1 e1 hx32
  obtain ⟨⟨nV, cV, dV⟩, hq⟩ : ∃ p, rnum s a1 b1 1 = p := ⟨_, rfl⟩
  have hr' : rraw s cV dV nV = (V, a2, b2) := by have := h2; unfold rdT at this; simp only [hq] at this; exact this
  have HnV : Hid _ := hq
  have HrV : Hid _ := hr'
  clear hq hr' h2
  rw [show nv 6 0 = 0 from rfl] at hO
  obtain ⟨f, hf⟩ : ∃ f, endv s a2 b2 = f := ⟨_, rfl⟩
  obtain ⟨g, hg⟩ : ∃ g, ck 6 0 ByteArray.empty V r 0 [] = g := ⟨_, rfl⟩
  rw [hf, hg] at hO
  have Hf : Hid _ := hf
  have Hg : Hid _ := hg
  have HO : Hid _ := hO
  have hh1 : (hs 6).toList.isEmpty = false := by decide +kernel
  have hh2 : ¬ (hs 6).toList = [] := by decide +kernel
  have HM : Hid (M (fun _ => False) w _ [blk w.heap.size (.cells oz0 27), xr (w.heap.size + 1) s 0 0]) := ((M.start (fun _ => False) w).alloc (.cells oz0 27) rfl).xnew s hsz (by simp)
  clear hn hnK hsz hO hf hg
  go_enter Tryd.func13, Tryd.ntmps13
  go_wp2_with (first | (refine St.wl_alloc tyO rfl rfl (by (try simp only [World.size_alloc]); rfl) ?_; simp only [Act.put, List.setIfInBounds_toArray, List.set_cons_zero, List.set_cons_succ]) | (go_at_call 42; refine (xnum_k HM.out 1 rfl Hn.out HnK.out).mono ?_; rintro e w2 ⟨rfl, h1⟩; have HM : Hid _ := (M.alloc h1 (.cells (oc 6 0 ByteArray.empty ByteArray.empty Z32 (.slice none 0 0)).toArray 27) rfl); clear h1; have ge := (HM.out.xcells 1 rfl).2; have c0 := HM.out.cell 2 rfl 0 (v := .int .i64 6) rfl; have c2 := HM.out.cell 2 rfl 2 rfl; have c3 := HM.out.cell 2 rfl 3 rfl; have f1 := HM.out.free 2 rfl 1; have f2 := HM.out.free 2 rfl 2; have f3 := HM.out.free 2 rfl 3) | (refine St.wl_buildV (T := 27) (parts := #[(0, Operand.tmp 15)]) rfl rfl (cs := (oc 6 0 ByteArray.empty ByteArray.empty Z32 (.slice none 0 0)).toArray) (by kernel_rfl) ?_; simp only [Act.put, List.setIfInBounds_toArray, List.set_cons_zero, List.set_cons_succ]) | (refine St.wl_buildV (T := 27) (parts := #[]) rfl rfl (cs := oz0) (by kernel_rfl) ?_; simp only [Act.put, List.setIfInBounds_toArray, List.set_cons_zero, List.set_cons_succ]) | (refine St.wl_storeN tyO rfl rfl rfl rfl rfl (by (try simp only [World.size_alloc])) (show _ = Value.agg (oc 6 0 ByteArray.empty ByteArray.empty Z32 (.slice none 0 0)).toArray from rfl) (oc_sz rfl) (oc_sz rfl) (oc_one _ _ _ _ _ _ _ _) ?_) | (go_at_call 43; refine (has_any _ 6 (by decide)).mono ?_; rintro e w3 ⟨rfl, rfl⟩))
  obtain ⟨ob, hob⟩ : ∃ b, w2.heap.size = b := ⟨_, rfl⟩
  rw [hob] at HM ⊢
  clear hob
  go_loopw [7, 8, 9] (fun i _ _ wr => ∃ k : Nat, k ≤ 2 ∧ i = .int .i64 k ∧ (match k with | 0 => M (fun _ => False) w wr [blk w.heap.size (.cells oz0 27), xr (w.heap.size + 1) s a0 0, blk ob (.cells (oc 6 0 ByteArray.empty ByteArray.empty Z32 (.slice none 0 0)).toArray 27)] | 1 => M (fun _ => False) w wr [blk w.heap.size (.cells oz0 27), xr (w.heap.size + 1) s a1 b1, blk ob (.cells (oc 6 0 ByteArray.empty ByteArray.empty r (.slice none 0 0)).toArray 27)] | _ => M (fun _ => False) w wr [blk w.heap.size (.cells oz0 27), xr (w.heap.size + 1) s a2 b2, blk ob (.cells (oc 6 0 ByteArray.empty V r (.slice none 0 0)).toArray 27)])) (fun i _ _ _ => 2 - (intOf i).toNat)
  case atStart => exact ⟨0, Nat.zero_le _, rfl, HM.out⟩
  case round =>
    obtain ⟨k, hk, rfl, hM⟩ := hrel
    rcases (by omega : k = 0 ∨ k = 1 ∨ k = 2) with rfl | rfl | rfl
    · have HM : Hid (M (fun _ => False) w wr [blk w.heap.size (.cells oz0 27), xr (w.heap.size + 1) s a0 0, blk ob (.cells (oc 6 0 ByteArray.empty ByteArray.empty Z32 (.slice none 0 0)).toArray 27)]) := hM
      clear hM hk
      simp only [show ((0 : Nat) : Int) = 0 from rfl]
      have ge := (HM.out.xcells 1 rfl).2; have c0 := HM.out.cell 2 rfl 0 (v := .int .i64 6) rfl; have c2 := HM.out.cell 2 rfl 2 rfl; have c3 := HM.out.cell 2 rfl 3 rfl; have f1 := HM.out.free 2 rfl 1; have f2 := HM.out.free 2 rfl 2; have f3 := HM.out.free 2 rfl 3
      go_wp2_with (first | (go_at_call 45; refine (xid_r HM.out 1 rfl Hx.out Hpx.out).mono ?_; rintro e w4 ⟨rfl, h1⟩; have HM : Hid _ := h1; clear h1) | (refine St.wl_storeMid tyI rfl rfl rfl rfl rfl (cs := (r.map bv).toArray) (by rw [List.size_toArray, List.length_map]; exact Hr.out) (one_bv r) (HM.out.get 2 rfl) (by rw [oc_sz rfl]; decide) (oc_mid 6 0 ByteArray.empty ByteArray.empty Z32 r _ rfl) ?_; have HM : Hid (M (fun _ => False) w _ [blk w.heap.size (.cells oz0 27), xr (w.heap.size + 1) s a1 b1, blk ob (.cells (oc 6 0 ByteArray.empty ByteArray.empty r (.slice none 0 0)).toArray 27)]) := HM.out.setr 2 rfl (oc 6 0 ByteArray.empty ByteArray.empty r (.slice none 0 0)).toArray))
      go_roundw
      case rel => exact ⟨1, by omega, rfl, HM.out⟩
      case measure => simp [intOf]
    · have HM : Hid (M (fun _ => False) w wr [blk w.heap.size (.cells oz0 27), xr (w.heap.size + 1) s a1 b1, blk ob (.cells (oc 6 0 ByteArray.empty ByteArray.empty r (.slice none 0 0)).toArray 27)]) := hM
      clear hM hk
      simp only [show ((1 : Nat) : Int) = 1 from rfl]
      have ge := (HM.out.xcells 1 rfl).2; have c0 := HM.out.cell 2 rfl 0 (v := .int .i64 6) rfl; have c2 := HM.out.cell 2 rfl 2 rfl; have c3 := HM.out.cell 2 rfl 3 rfl; have f1 := HM.out.free 2 rfl 1; have f2 := HM.out.free 2 rfl 2; have f3 := HM.out.free 2 rfl 3
      go_wp2_with (first | (go_at_call 42; refine (M.xnum HM.out 1 rfl HnV.out).mono ?_; rintro e w4 ⟨rfl, h1⟩; have HM : Hid _ := h1; clear h1) | (go_at_call 44; refine (M.xraw HM.out 1 rfl HrV.out).mono ?_; rintro e w5 ⟨rfl, h1⟩; have HM : Hid _ := h1; clear h1; have ge := (HM.out.xcells 1 rfl).2; have c0 := HM.out.cell 2 rfl 0 (v := .int .i64 6) rfl; have c2 := HM.out.cell 2 rfl 2 rfl; have c3 := HM.out.cell 2 rfl 3 rfl; have f1 := HM.out.free 2 rfl 1; have f2 := HM.out.free 2 rfl 2; have f3 := HM.out.free 2 rfl 3; have HM : Hid (M (fun _ => False) w _ [blk w.heap.size (.cells oz0 27), xr (w.heap.size + 1) s a2 b2, blk ob (.cells (oc 6 0 ByteArray.empty V r (.slice none 0 0)).toArray 27)]) := HM.out.setc 2 rfl 3 (.string V)))
      go_roundw
      case rel => exact ⟨2, by omega, rfl, HM.out⟩
      case measure => simp [intOf]
    · have HM : Hid (M (fun _ => False) w wr [blk w.heap.size (.cells oz0 27), xr (w.heap.size + 1) s a2 b2, blk ob (.cells (oc 6 0 ByteArray.empty V r (.slice none 0 0)).toArray 27)]) := hM
      clear hM hk
      simp only [show ((2 : Nat) : Int) = 2 from rfl]
      have ge := (HM.out.xcells 1 rfl).2; have c0 := HM.out.cell 2 rfl 0 (v := .int .i64 6) rfl; have c2 := HM.out.cell 2 rfl 2 rfl; have c3 := HM.out.cell 2 rfl 3 rfl; have f1 := HM.out.free 2 rfl 1; have f2 := HM.out.free 2 rfl 2; have f3 := HM.out.free 2 rfl 3
      go_wp2_with (first | (go_at_call 46; refine (M.xend HM.out 1 rfl Hf.out).mono ?_; rintro e w8 ⟨rfl, rfl⟩) | ((with_reducible refine at_load 27 ?_); refine St.wl_load tyO (by rfl) rfl rfl (HM.out.range 2 rfl) (oc_len _ _ _ _ _ _ Hr.out) ?_; simp only [Act.put, List.setIfInBounds_toArray, List.set_cons_zero, List.set_cons_succ]) | (go_at_call 18; refine (rcheck_any _ 6 0 ByteArray.empty V r none 0 0 [] Hr.out (at_nil _) g Hg.out).mono ?_; rintro e w9 ⟨rfl, k1⟩; have HM : Hid _ := HM.out.calm k1; clear k1) | (refine St.wl_buildV (T := 27) rfl rfl (cs := oz0) (by kernel_rfl) ?_; simp only [Act.put, List.setIfInBounds_toArray, List.set_cons_zero, List.set_cons_succ]) | (refine St.wl_store tyO rfl rfl rfl rfl (show _ = Value.agg oz0 from rfl) (oc_sz rfl) (oc_one _ _ _ _ _ _ _ _) (HM.out.get 0 rfl) (oc_sz rfl) ?_; have HM : Hid _ := HM.out.setr 0 rfl oz0) | (refine St.wl_store tyO rfl rfl rfl rfl (show _ = Value.agg (oc 6 0 ByteArray.empty V r (.slice none 0 0)).toArray from rfl) (oc_sz Hr.out) (oc_one _ _ _ _ _ _ _ _) (HM.out.get 0 rfl) (oc_sz rfl) ?_; have HM : Hid _ := HM.out.setr 0 rfl (oc 6 0 ByteArray.empty V r (.slice none 0 0)).toArray))
      all_goals first
        | (refine bodyPost_ret (St.res2 tyO rfl _ _ w.heap.size oz0 (oc_sz rfl) rfl (HM.out.get 0 rfl) _ rfl) rfl ?_
           have e := HO.out
           unfold fin at e
           repeat' split at e
           all_goals first | (subst e; exact of_zero rfl HM.out.keep) | (exfalso; simp_all; done))
        | (refine bodyPost_ret (St.res2 tyO rfl _ _ w.heap.size (oc 6 0 ByteArray.empty V r (.slice none 0 0)).toArray (oc_sz Hr.out) rfl (HM.out.get 0 rfl) _ rfl) rfl ?_
           have e := HO.out
           unfold fin at e
           repeat' split at e
           all_goals first | (subst e; exact ⟨.slice none 0 0, rfl, Own.nil _, HM.out.keep, fun k hk => by simp [Value.ownBlock] at hk⟩) | (exfalso; simp_all; done))
set_option maxRecDepth 100000 in
set_option maxHeartbeats 8000000 in
theorem rof_7 (w : World) (s : ByteArray) (hsz : s.size ≤ maxLen) (n a0 : Nat) (hn : rnum s 0 0 1 = (n, a0, 0)) (hnK : (n : Int) = 7) (r : List UInt8) (a1 : Nat) (b1 : Int) (h1 : rdR s a0 0 true = (r, a1, b1)) (R : OO) (hO : fin (endv s a1 b1) (ck 7 (nv 7 0) ByteArray.empty ByteArray.empty r 0 []) 7 (nv 7 0) ByteArray.empty ByteArray.empty r [] = R) :
    Calls Tryd.prog 13 #[.string s] w (OfPost R w) := by
  have Hn : Hid _ := hn
  have HnK : Hid ((n : Int) = 7) := hnK
  obtain ⟨⟨x, a9, b9⟩, hx⟩ : ∃ p, rraw s a0 0 32 = p := ⟨_, rfl⟩
  have h' : (pad x.data.toList, a9, b9) = (r, a1, b1) := by have := h1; unfold rdR at this; simp only [hx] at this; exact this
  simp only [Prod.mk.injEq] at h'
  obtain ⟨e1, e2, e3⟩ := h'
  replace e2 := e2.symm
  replace e3 := e3.symm
  subst e2 e3
  have hx32 : x.size ≤ 32 := by have := rraw_32 s a0 0; rw [hx] at this; exact this
  have Hx : Hid _ := hx
  have Hpx : Hid (pad x.data.toList = r) := e1
  have Hr : Hid (r.length = 32) := by show _ = _; rw [← e1]; exact pad_len x.data.toList (by rw [Array.length_toList]; exact hx32)
  clear hx h1 e1 hx32
  rw [show nv 7 0 = 0 from rfl] at hO
  obtain ⟨f, hf⟩ : ∃ f, endv s a1 b1 = f := ⟨_, rfl⟩
  obtain ⟨g, hg⟩ : ∃ g, ck 7 0 ByteArray.empty ByteArray.empty r 0 [] = g := ⟨_, rfl⟩
  rw [hf, hg] at hO
  have Hf : Hid _ := hf
  have Hg : Hid _ := hg
  have HO : Hid _ := hO
  have hh1 : (hs 7).toList.isEmpty = false := by decide +kernel
  have hh2 : ¬ (hs 7).toList = [] := by decide +kernel
  have HM : Hid (M (fun _ => False) w _ [blk w.heap.size (.cells oz0 27), xr (w.heap.size + 1) s 0 0]) := ((M.start (fun _ => False) w).alloc (.cells oz0 27) rfl).xnew s hsz (by simp)
  clear hn hnK hsz hO hf hg
  go_enter Tryd.func13, Tryd.ntmps13
  go_wp2_with (first | (refine St.wl_alloc tyO rfl rfl (by (try simp only [World.size_alloc]); rfl) ?_; simp only [Act.put, List.setIfInBounds_toArray, List.set_cons_zero, List.set_cons_succ]) | (go_at_call 42; refine (xnum_k HM.out 1 rfl Hn.out HnK.out).mono ?_; rintro e w2 ⟨rfl, h1⟩; have HM : Hid _ := (M.alloc h1 (.cells (oc 7 0 ByteArray.empty ByteArray.empty Z32 (.slice none 0 0)).toArray 27) rfl); clear h1; have ge := (HM.out.xcells 1 rfl).2; have c0 := HM.out.cell 2 rfl 0 (v := .int .i64 7) rfl; have c2 := HM.out.cell 2 rfl 2 rfl; have c3 := HM.out.cell 2 rfl 3 rfl; have f1 := HM.out.free 2 rfl 1; have f2 := HM.out.free 2 rfl 2; have f3 := HM.out.free 2 rfl 3) | (refine St.wl_buildV (T := 27) (parts := #[(0, Operand.tmp 15)]) rfl rfl (cs := (oc 7 0 ByteArray.empty ByteArray.empty Z32 (.slice none 0 0)).toArray) (by kernel_rfl) ?_; simp only [Act.put, List.setIfInBounds_toArray, List.set_cons_zero, List.set_cons_succ]) | (refine St.wl_buildV (T := 27) (parts := #[]) rfl rfl (cs := oz0) (by kernel_rfl) ?_; simp only [Act.put, List.setIfInBounds_toArray, List.set_cons_zero, List.set_cons_succ]) | (refine St.wl_storeN tyO rfl rfl rfl rfl rfl (by (try simp only [World.size_alloc])) (show _ = Value.agg (oc 7 0 ByteArray.empty ByteArray.empty Z32 (.slice none 0 0)).toArray from rfl) (oc_sz rfl) (oc_sz rfl) (oc_one _ _ _ _ _ _ _ _) ?_) | (go_at_call 43; refine (has_any _ 7 (by decide)).mono ?_; rintro e w3 ⟨rfl, rfl⟩))
  obtain ⟨ob, hob⟩ : ∃ b, w2.heap.size = b := ⟨_, rfl⟩
  rw [hob] at HM ⊢
  clear hob
  go_loopw [7, 8, 9] (fun i _ _ wr => ∃ k : Nat, k ≤ 1 ∧ i = .int .i64 k ∧ (match k with | 0 => M (fun _ => False) w wr [blk w.heap.size (.cells oz0 27), xr (w.heap.size + 1) s a0 0, blk ob (.cells (oc 7 0 ByteArray.empty ByteArray.empty Z32 (.slice none 0 0)).toArray 27)] | _ => M (fun _ => False) w wr [blk w.heap.size (.cells oz0 27), xr (w.heap.size + 1) s a1 b1, blk ob (.cells (oc 7 0 ByteArray.empty ByteArray.empty r (.slice none 0 0)).toArray 27)])) (fun i _ _ _ => 1 - (intOf i).toNat)
  case atStart => exact ⟨0, Nat.zero_le _, rfl, HM.out⟩
  case round =>
    obtain ⟨k, hk, rfl, hM⟩ := hrel
    rcases (by omega : k = 0 ∨ k = 1) with rfl | rfl
    · have HM : Hid (M (fun _ => False) w wr [blk w.heap.size (.cells oz0 27), xr (w.heap.size + 1) s a0 0, blk ob (.cells (oc 7 0 ByteArray.empty ByteArray.empty Z32 (.slice none 0 0)).toArray 27)]) := hM
      clear hM hk
      simp only [show ((0 : Nat) : Int) = 0 from rfl]
      have ge := (HM.out.xcells 1 rfl).2; have c0 := HM.out.cell 2 rfl 0 (v := .int .i64 7) rfl; have c2 := HM.out.cell 2 rfl 2 rfl; have c3 := HM.out.cell 2 rfl 3 rfl; have f1 := HM.out.free 2 rfl 1; have f2 := HM.out.free 2 rfl 2; have f3 := HM.out.free 2 rfl 3
      go_wp2_with (first | (go_at_call 45; refine (xid_r HM.out 1 rfl Hx.out Hpx.out).mono ?_; rintro e w4 ⟨rfl, h1⟩; have HM : Hid _ := h1; clear h1) | (refine St.wl_storeMid tyI rfl rfl rfl rfl rfl (cs := (r.map bv).toArray) (by rw [List.size_toArray, List.length_map]; exact Hr.out) (one_bv r) (HM.out.get 2 rfl) (by rw [oc_sz rfl]; decide) (oc_mid 7 0 ByteArray.empty ByteArray.empty Z32 r _ rfl) ?_; have HM : Hid (M (fun _ => False) w _ [blk w.heap.size (.cells oz0 27), xr (w.heap.size + 1) s a1 b1, blk ob (.cells (oc 7 0 ByteArray.empty ByteArray.empty r (.slice none 0 0)).toArray 27)]) := HM.out.setr 2 rfl (oc 7 0 ByteArray.empty ByteArray.empty r (.slice none 0 0)).toArray))
      go_roundw
      case rel => exact ⟨1, by omega, rfl, HM.out⟩
      case measure => simp [intOf]
    · have HM : Hid (M (fun _ => False) w wr [blk w.heap.size (.cells oz0 27), xr (w.heap.size + 1) s a1 b1, blk ob (.cells (oc 7 0 ByteArray.empty ByteArray.empty r (.slice none 0 0)).toArray 27)]) := hM
      clear hM hk
      simp only [show ((1 : Nat) : Int) = 1 from rfl]
      have ge := (HM.out.xcells 1 rfl).2; have c0 := HM.out.cell 2 rfl 0 (v := .int .i64 7) rfl; have c2 := HM.out.cell 2 rfl 2 rfl; have c3 := HM.out.cell 2 rfl 3 rfl; have f1 := HM.out.free 2 rfl 1; have f2 := HM.out.free 2 rfl 2; have f3 := HM.out.free 2 rfl 3
      go_wp2_with (first | (go_at_call 46; refine (M.xend HM.out 1 rfl Hf.out).mono ?_; rintro e w8 ⟨rfl, rfl⟩) | ((with_reducible refine at_load 27 ?_); refine St.wl_load tyO (by rfl) rfl rfl (HM.out.range 2 rfl) (oc_len _ _ _ _ _ _ Hr.out) ?_; simp only [Act.put, List.setIfInBounds_toArray, List.set_cons_zero, List.set_cons_succ]) | (go_at_call 18; refine (rcheck_any _ 7 0 ByteArray.empty ByteArray.empty r none 0 0 [] Hr.out (at_nil _) g Hg.out).mono ?_; rintro e w9 ⟨rfl, k1⟩; have HM : Hid _ := HM.out.calm k1; clear k1) | (refine St.wl_buildV (T := 27) rfl rfl (cs := oz0) (by kernel_rfl) ?_; simp only [Act.put, List.setIfInBounds_toArray, List.set_cons_zero, List.set_cons_succ]) | (refine St.wl_store tyO rfl rfl rfl rfl (show _ = Value.agg oz0 from rfl) (oc_sz rfl) (oc_one _ _ _ _ _ _ _ _) (HM.out.get 0 rfl) (oc_sz rfl) ?_; have HM : Hid _ := HM.out.setr 0 rfl oz0) | (refine St.wl_store tyO rfl rfl rfl rfl (show _ = Value.agg (oc 7 0 ByteArray.empty ByteArray.empty r (.slice none 0 0)).toArray from rfl) (oc_sz Hr.out) (oc_one _ _ _ _ _ _ _ _) (HM.out.get 0 rfl) (oc_sz rfl) ?_; have HM : Hid _ := HM.out.setr 0 rfl (oc 7 0 ByteArray.empty ByteArray.empty r (.slice none 0 0)).toArray))
      all_goals first
        | (refine bodyPost_ret (St.res2 tyO rfl _ _ w.heap.size oz0 (oc_sz rfl) rfl (HM.out.get 0 rfl) _ rfl) rfl ?_
           have e := HO.out
           unfold fin at e
           repeat' split at e
           all_goals first | (subst e; exact of_zero rfl HM.out.keep) | (exfalso; simp_all; done))
        | (refine bodyPost_ret (St.res2 tyO rfl _ _ w.heap.size (oc 7 0 ByteArray.empty ByteArray.empty r (.slice none 0 0)).toArray (oc_sz Hr.out) rfl (HM.out.get 0 rfl) _ rfl) rfl ?_
           have e := HO.out
           unfold fin at e
           repeat' split at e
           all_goals first | (subst e; exact ⟨.slice none 0 0, rfl, Own.nil _, HM.out.keep, fun k hk => by simp [Value.ownBlock] at hk⟩) | (exfalso; simp_all; done))
end Ox
end Go.Proofs.YtfoplimdbapdfaaDoor
