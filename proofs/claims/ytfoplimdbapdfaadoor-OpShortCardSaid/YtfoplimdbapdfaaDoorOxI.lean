/-
  petrelref07.Of.
-/
import Derived.Test.YtfoplimdbapdfaaDoorOxH
import Derived.Test.YtfoplimdbapdfaaDoorOxE
import Derived.Test.YtfoplimdbapdfaaDoorGTx
set_option linter.unusedVariables false
set_option linter.unusedSimpArgs false
namespace Go.Proofs.YtfoplimdbapdfaaDoor
open Go.RowKit
namespace Ox
open Oct Ids
open Mem (M blk rd xr ids)
open Ref (endv)

theorem xnum_k {F : Nat → Prop} {w0 w : World} {l : List Mem.It} (h : M F w0 w l) (i : Nat) {b : Nat} {s : ByteArray} {a : Nat} {bad k : Int} (hi : l[i]? = some (xr b s a bad)) {n a' : Nat} {b' : Int} (hv : Oct.rnum s a bad k = (n, a', b')) {K : Int} (hK : (n : Int) = K) :
    Calls Tryd.prog 42 #[.pointer (some ⟨b, 0, none⟩), .int .i64 k] w fun e w' => e = .returned (.int .i64 K) ∧ M F w0 w' (l.set i (xr b s a' b')) := hK ▸ M.xnum h i hi hv
theorem xid_r {F : Nat → Prop} {w0 w : World} {l : List Mem.It} (h : M F w0 w l) (i : Nat) {b : Nat} {s : ByteArray} {a : Nat} {bad : Int} (hi : l[i]? = some (xr b s a bad)) {x : ByteArray} {a' : Nat} {b' : Int} (hv : Oct.rraw s a bad 32 = (x, a', b')) {r : List UInt8} (hr : pad x.data.toList = r) :
    Calls Tryd.prog 45 #[.pointer (some ⟨b, 0, none⟩)] w fun e w' => e = .returned (idv r) ∧ M F w0 w' (l.set i (xr b s a' b')) := hr ▸ M.xid h i hi hv
set_option maxRecDepth 100000 in
set_option maxHeartbeats 1000000 in
theorem rof_bad (w : World) (s : ByteArray) (hsz : s.size ≤ maxLen) (n a1 : Nat) (b1 : Int) (hn : rnum s 0 0 1 = (n, a1, b1)) (hb : b1 ≠ 0) : Calls Tryd.prog 13 #[.string s] w (OfPost (oz b1) w) := by
  have hb' : (b1 != 0) = true := by simpa using hb
  have Hn : Hid _ := hn
  have HM : Hid (M (fun _ => False) w _ [blk w.heap.size (.cells oz0 27), xr (w.heap.size + 1) s 0 0]) := ((M.start (fun _ => False) w).alloc (.cells oz0 27) rfl).xnew s hsz (by simp)
  clear hn hb hsz
  go_enter Tryd.func13, Tryd.ntmps13
  go_wp2_with (first | (refine St.wl_alloc tyO rfl rfl (by (try simp only [World.size_alloc]); rfl) ?_; simp only [Act.put, List.setIfInBounds_toArray, List.set_cons_zero, List.set_cons_succ]) | (go_at_call 42; refine (M.xnum HM.out 1 rfl Hn.out).mono ?_; rintro e w2 ⟨rfl, h1⟩; have HM : Hid _ := (M.alloc h1 (.cells (oc n 0 ByteArray.empty ByteArray.empty Z32 (.slice none 0 0)).toArray 27) rfl); clear h1; have ge := (HM.out.xcells 1 rfl).2; have c0 := HM.out.cell 2 rfl 0 (v := .int .i64 n) rfl; have c2 := HM.out.cell 2 rfl 2 rfl; have c3 := HM.out.cell 2 rfl 3 rfl; have f1 := HM.out.free 2 rfl 1; have f2 := HM.out.free 2 rfl 2; have f3 := HM.out.free 2 rfl 3) | (refine St.wl_buildV (T := 27) (parts := #[(0, Operand.tmp 15)]) rfl rfl (cs := (oc n 0 ByteArray.empty ByteArray.empty Z32 (.slice none 0 0)).toArray) (by kernel_rfl) ?_; simp only [Act.put, List.setIfInBounds_toArray, List.set_cons_zero, List.set_cons_succ]) | (refine St.wl_buildV (T := 27) (parts := #[]) rfl rfl (cs := oz0) (by kernel_rfl) ?_; simp only [Act.put, List.setIfInBounds_toArray, List.set_cons_zero, List.set_cons_succ]) | (refine St.wl_storeN tyO rfl rfl rfl rfl rfl (by (try simp only [World.size_alloc])) (show _ = Value.agg (oc n 0 ByteArray.empty ByteArray.empty Z32 (.slice none 0 0)).toArray from rfl) (oc_sz rfl) (oc_sz rfl) (oc_one _ _ _ _ _ _ _ _) ?_))
  refine Txt.wp_region_text (id := 4) (fun w' => w'.cell? ⟨w.heap.size + 1, 1, none⟩ = some (.int .i64 b1)) [0, 0, 0, 0, 2, 4, 0] (by kernel_rfl) (by kernel_rfl) (HM.out.xcells 1 rfl).2 ?_
  have HM : Hid _ := HM.out.drew
  repeat (first
    | (refine Txt.tl_pure (v := ?_) (by rfl) ?_ ?_; rotate_left; (focus (intro _; go_simp; try with_reducible rfl)); simp only [Act.put, List.setIfInBounds_toArray, List.set_cons_zero, List.set_cons_succ])
    | (refine Txt.tl_skip (by rfl) trivial ?_; simp only [Act.put, List.setIfInBounds_toArray, List.set_cons_zero, List.set_cons_succ])
    | (refine Txt.tl_load (v := ?_) (by rfl) (by rfl) (by rfl) (by kernel_rfl) ?_ ?_; rotate_left; (focus (first | assumption | (go_simp; done) | (go_simp; with_reducible rfl))); simp only [Act.put, List.setIfInBounds_toArray, List.set_cons_zero, List.set_cons_succ])
    | (refine Txt.tl_alloc (by rfl) ?_; go_simp; refine ⟨by (first | exact Txt.Le.alloc_drew _ _ | exact Txt.Le.alloc _ _), ?_⟩))
  refine Txt.tl_loadS (v := .int .i64 b1) (by rfl) (by rfl) (by rfl) (by kernel_rfl) (fun _ h => h) ?_
  simp only [Act.put, List.setIfInBounds_toArray, List.set_cons_zero, List.set_cons_succ]
  refine Txt.tl_loud (by rfl) ?_
  refine St.wp_store tyO rfl rfl rfl (show _ = Value.agg oz0 from rfl) (oc_sz rfl) (oc_one _ _ _ _ _ _ _ _) (HM.out.get 0 rfl) (oc_sz rfl) ?_
  have HM : Hid _ := HM.out.setr 0 rfl oz0
  refine ⟨(HM.out.xcells 1 rfl).2, ?_⟩
  repeat (first
    | (refine Txt.tl_pure (v := ?_) (by rfl) ?_ ?_; rotate_left; (focus (intro _; go_simp; try with_reducible rfl)); simp only [Act.put, List.setIfInBounds_toArray, List.set_cons_zero, List.set_cons_succ])
    | (refine Txt.tl_skip (by rfl) trivial ?_; simp only [Act.put, List.setIfInBounds_toArray, List.set_cons_zero, List.set_cons_succ])
    | (refine Txt.tl_load (v := ?_) (by rfl) (by rfl) (by rfl) (by kernel_rfl) ?_ ?_; rotate_left; (focus (first | assumption | (go_simp; done) | (go_simp; with_reducible rfl))); simp only [Act.put, List.setIfInBounds_toArray, List.set_cons_zero, List.set_cons_succ])
    | (refine Txt.tl_alloc (by rfl) ?_; go_simp; refine ⟨by (first | exact Txt.Le.alloc_drew _ _ | exact Txt.Le.alloc _ _), ?_⟩))
  refine Txt.tl_nil ?_
  go_wp2
  refine bodyPost_ret (St.res2 tyO rfl _ _ w.heap.size oz0 (oc_sz rfl) rfl (HM.out.get 0 rfl) _ rfl) rfl ?_
  exact of_zero rfl HM.out.keep
set_option maxRecDepth 100000 in
set_option maxHeartbeats 1000000 in
theorem rof_none (w : World) (s : ByteArray) (hsz : s.size ≤ maxLen) (n a1 : Nat) (hn : rnum s 0 0 1 = (n, a1, 0)) (hK : (n : Int) < 1 ∨ 7 < (n : Int)) : Calls Tryd.prog 13 #[.string s] w (OfPost (oz 10) w) := by
  have Hn : Hid _ := hn
  have HK : Hid _ := hK
  have HM : Hid (M (fun _ => False) w _ [blk w.heap.size (.cells oz0 27), xr (w.heap.size + 1) s 0 0]) := ((M.start (fun _ => False) w).alloc (.cells oz0 27) rfl).xnew s hsz (by simp)
  clear hn hK hsz
  go_enter Tryd.func13, Tryd.ntmps13
  go_wp2_with (first | (refine St.wl_alloc tyO rfl rfl (by (try simp only [World.size_alloc]); rfl) ?_; simp only [Act.put, List.setIfInBounds_toArray, List.set_cons_zero, List.set_cons_succ]) | (go_at_call 42; refine (M.xnum HM.out 1 rfl Hn.out).mono ?_; rintro e w2 ⟨rfl, h1⟩; have HM : Hid _ := (M.alloc h1 (.cells (oc n 0 ByteArray.empty ByteArray.empty Z32 (.slice none 0 0)).toArray 27) rfl); clear h1; have ge := (HM.out.xcells 1 rfl).2; have c0 := HM.out.cell 2 rfl 0 (v := .int .i64 n) rfl; have c2 := HM.out.cell 2 rfl 2 rfl; have c3 := HM.out.cell 2 rfl 3 rfl; have f1 := HM.out.free 2 rfl 1; have f2 := HM.out.free 2 rfl 2; have f3 := HM.out.free 2 rfl 3) | (refine St.wl_buildV (T := 27) (parts := #[(0, Operand.tmp 15)]) rfl rfl (cs := (oc n 0 ByteArray.empty ByteArray.empty Z32 (.slice none 0 0)).toArray) (by kernel_rfl) ?_; simp only [Act.put, List.setIfInBounds_toArray, List.set_cons_zero, List.set_cons_succ]) | (refine St.wl_buildV (T := 27) (parts := #[]) rfl rfl (cs := oz0) (by kernel_rfl) ?_; simp only [Act.put, List.setIfInBounds_toArray, List.set_cons_zero, List.set_cons_succ]) | (refine St.wl_storeN tyO rfl rfl rfl rfl rfl (by (try simp only [World.size_alloc])) (show _ = Value.agg (oc n 0 ByteArray.empty ByteArray.empty Z32 (.slice none 0 0)).toArray from rfl) (oc_sz rfl) (oc_sz rfl) (oc_one _ _ _ _ _ _ _ _) ?_) | (go_at_call 43; refine (has_none _ _ HK.out).mono ?_; rintro e w3 ⟨rfl, rfl⟩) | (refine St.wl_store tyO rfl rfl rfl rfl (show _ = Value.agg oz0 from rfl) (oc_sz rfl) (oc_one _ _ _ _ _ _ _ _) (HM.out.get 0 rfl) (oc_sz rfl) ?_; have HM : Hid _ := HM.out.setr 0 rfl oz0))
  refine bodyPost_ret (St.res2 tyO rfl _ _ w.heap.size oz0 (oc_sz rfl) rfl (HM.out.get 0 rfl) _ rfl) rfl ?_
  exact of_zero rfl HM.out.keep
theorem ids_atn {F : Nat → Prop} {w0 w : World} {it : List Mem.It} (h : M F w0 w it) (i : Nat) {va : Option Addr} {n vc : Nat} {l : List (List UInt8)} (hi : it[i]? = some (ids (.slice va n vc) l)) (hl : l.length = n) : At w va n l := by
  subst hl
  exact ids_at h i hi
theorem at_nil (w : World) : At w none 0 [] := ⟨rfl, by simp, Nat.zero_le _, .inl rfl⟩
set_option maxRecDepth 100000 in
set_option maxHeartbeats 8000000 in
theorem rof_1 (w : World) (s : ByteArray) (hsz : s.size ≤ maxLen) (n a0 : Nat) (hn : rnum s 0 0 1 = (n, a0, 0)) (hnK : (n : Int) = 1) (m : Nat) (a1 : Nat) (b1 : Int) (h1 : rdN s a0 0 true = (m, a1, b1)) (R : OO) (hO : fin (endv s a1 b1) (ck 1 (nv 1 m) ByteArray.empty ByteArray.empty Z32 0 []) 1 (nv 1 m) ByteArray.empty ByteArray.empty Z32 [] = R) :
    Calls Tryd.prog 13 #[.string s] w (OfPost R w) := by
  have Hn : Hid _ := hn
  have HnK : Hid ((n : Int) = 1) := hnK
  have hm4 : m < 4294967296 := by have := rnum4_lt s a0 0; rw [show rnum s a0 0 4 = (m, a1, b1) from h1] at this; exact this
  have HnN : Hid (rnum s a0 0 4 = (m, a1, b1)) := h1
  clear h1
  have Hr : Hid (Z32.length = 32) := (rfl : Z32.length = 32)
  obtain ⟨m1, hm1⟩ : ∃ m1, (m : Int) - 2147483648 = m1 := ⟨_, rfl⟩
  have hw : IntKind.i64.wrap ((m : Int) - 2147483648) = m1 := by rw [hm1]; exact IntWalk.i64_in _ (by omega)
  rw [show nv 1 m = m1 from hm1] at hO
  clear hm1
  obtain ⟨f, hf⟩ : ∃ f, endv s a1 b1 = f := ⟨_, rfl⟩
  obtain ⟨g, hg⟩ : ∃ g, ck 1 m1 ByteArray.empty ByteArray.empty Z32 0 [] = g := ⟨_, rfl⟩
  rw [hf, hg] at hO
  have Hf : Hid _ := hf
  have Hg : Hid _ := hg
  have HO : Hid _ := hO
  have hh1 : (hs 1).toList.isEmpty = false := by decide +kernel
  have hh2 : ¬ (hs 1).toList = [] := by decide +kernel
  have HM : Hid (M (fun _ => False) w _ [blk w.heap.size (.cells oz0 27), xr (w.heap.size + 1) s 0 0]) := ((M.start (fun _ => False) w).alloc (.cells oz0 27) rfl).xnew s hsz (by simp)
  clear hn hnK hsz hO hf hg
  go_enter Tryd.func13, Tryd.ntmps13
  go_wp2_with (first | (refine St.wl_alloc tyO rfl rfl (by (try simp only [World.size_alloc]); rfl) ?_; simp only [Act.put, List.setIfInBounds_toArray, List.set_cons_zero, List.set_cons_succ]) | (go_at_call 42; refine (xnum_k HM.out 1 rfl Hn.out HnK.out).mono ?_; rintro e w2 ⟨rfl, h1⟩; have HM : Hid _ := (M.alloc h1 (.cells (oc 1 0 ByteArray.empty ByteArray.empty Z32 (.slice none 0 0)).toArray 27) rfl); clear h1; have ge := (HM.out.xcells 1 rfl).2; have c0 := HM.out.cell 2 rfl 0 (v := .int .i64 1) rfl; have c2 := HM.out.cell 2 rfl 2 rfl; have c3 := HM.out.cell 2 rfl 3 rfl; have f1 := HM.out.free 2 rfl 1; have f2 := HM.out.free 2 rfl 2; have f3 := HM.out.free 2 rfl 3) | (refine St.wl_buildV (T := 27) (parts := #[(0, Operand.tmp 15)]) rfl rfl (cs := (oc 1 0 ByteArray.empty ByteArray.empty Z32 (.slice none 0 0)).toArray) (by kernel_rfl) ?_; simp only [Act.put, List.setIfInBounds_toArray, List.set_cons_zero, List.set_cons_succ]) | (refine St.wl_buildV (T := 27) (parts := #[]) rfl rfl (cs := oz0) (by kernel_rfl) ?_; simp only [Act.put, List.setIfInBounds_toArray, List.set_cons_zero, List.set_cons_succ]) | (refine St.wl_storeN tyO rfl rfl rfl rfl rfl (by (try simp only [World.size_alloc])) (show _ = Value.agg (oc 1 0 ByteArray.empty ByteArray.empty Z32 (.slice none 0 0)).toArray from rfl) (oc_sz rfl) (oc_sz rfl) (oc_one _ _ _ _ _ _ _ _) ?_) | (go_at_call 43; refine (has_any _ 1 (by decide)).mono ?_; rintro e w3 ⟨rfl, rfl⟩))
  obtain ⟨ob, hob⟩ : ∃ b, w2.heap.size = b := ⟨_, rfl⟩
  rw [hob] at HM ⊢
  clear hob
  go_loopw [7, 8, 9] (fun i _ _ wr => ∃ k : Nat, k ≤ 1 ∧ i = .int .i64 k ∧ (match k with | 0 => M (fun _ => False) w wr [blk w.heap.size (.cells oz0 27), xr (w.heap.size + 1) s a0 0, blk ob (.cells (oc 1 0 ByteArray.empty ByteArray.empty Z32 (.slice none 0 0)).toArray 27)] | _ => M (fun _ => False) w wr [blk w.heap.size (.cells oz0 27), xr (w.heap.size + 1) s a1 b1, blk ob (.cells (oc 1 m1 ByteArray.empty ByteArray.empty Z32 (.slice none 0 0)).toArray 27)])) (fun i _ _ _ => 1 - (intOf i).toNat)
  case atStart => exact ⟨0, Nat.zero_le _, rfl, HM.out⟩
  case round =>
    obtain ⟨k, hk, rfl, hM⟩ := hrel
    rcases (by omega : k = 0 ∨ k = 1) with rfl | rfl
    · have HM : Hid (M (fun _ => False) w wr [blk w.heap.size (.cells oz0 27), xr (w.heap.size + 1) s a0 0, blk ob (.cells (oc 1 0 ByteArray.empty ByteArray.empty Z32 (.slice none 0 0)).toArray 27)]) := hM
      clear hM hk
      simp only [show ((0 : Nat) : Int) = 0 from rfl]
      have ge := (HM.out.xcells 1 rfl).2; have c0 := HM.out.cell 2 rfl 0 (v := .int .i64 1) rfl; have c2 := HM.out.cell 2 rfl 2 rfl; have c3 := HM.out.cell 2 rfl 3 rfl; have f1 := HM.out.free 2 rfl 1; have f2 := HM.out.free 2 rfl 2; have f3 := HM.out.free 2 rfl 3
      go_wp2_with (first | (go_at_call 42; refine (M.xnum HM.out 1 rfl HnN.out).mono ?_; rintro e w4 ⟨rfl, h1⟩; have HM : Hid _ := h1; clear h1; have ge := (HM.out.xcells 1 rfl).2; have c0 := HM.out.cell 2 rfl 0 (v := .int .i64 1) rfl; have c2 := HM.out.cell 2 rfl 2 rfl; have c3 := HM.out.cell 2 rfl 3 rfl; have f1 := HM.out.free 2 rfl 1; have f2 := HM.out.free 2 rfl 2; have f3 := HM.out.free 2 rfl 3; have c1 := HM.out.cell 2 rfl 1 rfl; have HM : Hid (M (fun _ => False) w _ [blk w.heap.size (.cells oz0 27), xr (w.heap.size + 1) s a1 b1, blk ob (.cells (oc 1 (m : Int) ByteArray.empty ByteArray.empty Z32 (.slice none 0 0)).toArray 27)]) := HM.out.setc 2 rfl 1 (.int .i64 m); have ge := (HM.out.xcells 1 rfl).2; have c0 := HM.out.cell 2 rfl 0 (v := .int .i64 1) rfl; have c2 := HM.out.cell 2 rfl 2 rfl; have c3 := HM.out.cell 2 rfl 3 rfl; have f1 := HM.out.free 2 rfl 1; have f2 := HM.out.free 2 rfl 2; have f3 := HM.out.free 2 rfl 3; have c1 := HM.out.cell 2 rfl 1 (v := .int .i64 m) rfl; have HM : Hid (M (fun _ => False) w _ [blk w.heap.size (.cells oz0 27), xr (w.heap.size + 1) s a1 b1, blk ob (.cells (oc 1 m1 ByteArray.empty ByteArray.empty Z32 (.slice none 0 0)).toArray 27)]) := HM.out.setc 2 rfl 1 (.int .i64 m1)))
      go_roundw
      case rel => exact ⟨1, by omega, rfl, HM.out⟩
      case measure => simp [intOf]
    · have HM : Hid (M (fun _ => False) w wr [blk w.heap.size (.cells oz0 27), xr (w.heap.size + 1) s a1 b1, blk ob (.cells (oc 1 m1 ByteArray.empty ByteArray.empty Z32 (.slice none 0 0)).toArray 27)]) := hM
      clear hM hk
      simp only [show ((1 : Nat) : Int) = 1 from rfl]
      have ge := (HM.out.xcells 1 rfl).2; have c0 := HM.out.cell 2 rfl 0 (v := .int .i64 1) rfl; have c2 := HM.out.cell 2 rfl 2 rfl; have c3 := HM.out.cell 2 rfl 3 rfl; have f1 := HM.out.free 2 rfl 1; have f2 := HM.out.free 2 rfl 2; have f3 := HM.out.free 2 rfl 3
      go_wp2_with (first | (go_at_call 46; refine (M.xend HM.out 1 rfl Hf.out).mono ?_; rintro e w8 ⟨rfl, rfl⟩) | ((with_reducible refine at_load 27 ?_); refine St.wl_load tyO (by rfl) rfl rfl (HM.out.range 2 rfl) (oc_len _ _ _ _ _ _ Hr.out) ?_; simp only [Act.put, List.setIfInBounds_toArray, List.set_cons_zero, List.set_cons_succ]) | (go_at_call 18; refine (rcheck_any _ 1 m1 ByteArray.empty ByteArray.empty Z32 none 0 0 [] Hr.out (at_nil _) g Hg.out).mono ?_; rintro e w9 ⟨rfl, k1⟩; have HM : Hid _ := HM.out.calm k1; clear k1) | (refine St.wl_buildV (T := 27) rfl rfl (cs := oz0) (by kernel_rfl) ?_; simp only [Act.put, List.setIfInBounds_toArray, List.set_cons_zero, List.set_cons_succ]) | (refine St.wl_store tyO rfl rfl rfl rfl (show _ = Value.agg oz0 from rfl) (oc_sz rfl) (oc_one _ _ _ _ _ _ _ _) (HM.out.get 0 rfl) (oc_sz rfl) ?_; have HM : Hid _ := HM.out.setr 0 rfl oz0) | (refine St.wl_store tyO rfl rfl rfl rfl (show _ = Value.agg (oc 1 m1 ByteArray.empty ByteArray.empty Z32 (.slice none 0 0)).toArray from rfl) (oc_sz Hr.out) (oc_one _ _ _ _ _ _ _ _) (HM.out.get 0 rfl) (oc_sz rfl) ?_; have HM : Hid _ := HM.out.setr 0 rfl (oc 1 m1 ByteArray.empty ByteArray.empty Z32 (.slice none 0 0)).toArray))
      all_goals first
        | (refine bodyPost_ret (St.res2 tyO rfl _ _ w.heap.size oz0 (oc_sz rfl) rfl (HM.out.get 0 rfl) _ rfl) rfl ?_
           have e := HO.out
           unfold fin at e
           repeat' split at e
           all_goals first | (subst e; exact of_zero rfl HM.out.keep) | (exfalso; simp_all; done))
        | (refine bodyPost_ret (St.res2 tyO rfl _ _ w.heap.size (oc 1 m1 ByteArray.empty ByteArray.empty Z32 (.slice none 0 0)).toArray (oc_sz Hr.out) rfl (HM.out.get 0 rfl) _ rfl) rfl ?_
           have e := HO.out
           unfold fin at e
           repeat' split at e
           all_goals first | (subst e; exact ⟨.slice none 0 0, rfl, Own.nil _, HM.out.keep, fun k hk => by simp [Value.ownBlock] at hk⟩) | (exfalso; simp_all; done))
set_option maxRecDepth 100000 in
set_option maxHeartbeats 8000000 in
theorem rof_2 (w : World) (s : ByteArray) (hsz : s.size ≤ maxLen) (n a0 : Nat) (hn : rnum s 0 0 1 = (n, a0, 0)) (hnK : (n : Int) = 2) (V : ByteArray) (a1 : Nat) (b1 : Int) (h1 : rdT s a0 0 true = (V, a1, b1)) (R : OO) (hO : fin (endv s a1 b1) (ck 2 (nv 2 0) ByteArray.empty V Z32 0 []) 2 (nv 2 0) ByteArray.empty V Z32 [] = R) :
    Calls Tryd.prog 13 #[.string s] w (OfPost R w) := by
  have Hn : Hid _ := hn
  have HnK : Hid ((n : Int) = 2) := hnK
  obtain ⟨⟨nV, cV, dV⟩, hq⟩ : ∃ p, rnum s a0 0 1 = p := ⟨_, rfl⟩
  have hr' : rraw s cV dV nV = (V, a1, b1) := by have := h1; unfold rdT at this; simp only [hq] at this; exact this
  have HnV : Hid _ := hq
  have HrV : Hid _ := hr'
  clear hq hr' h1
  have Hr : Hid (Z32.length = 32) := (rfl : Z32.length = 32)
  rw [show nv 2 0 = 0 from rfl] at hO
  obtain ⟨f, hf⟩ : ∃ f, endv s a1 b1 = f := ⟨_, rfl⟩
  obtain ⟨g, hg⟩ : ∃ g, ck 2 0 ByteArray.empty V Z32 0 [] = g := ⟨_, rfl⟩
  rw [hf, hg] at hO
  have Hf : Hid _ := hf
  have Hg : Hid _ := hg
  have HO : Hid _ := hO
  have hh1 : (hs 2).toList.isEmpty = false := by decide +kernel
  have hh2 : ¬ (hs 2).toList = [] := by decide +kernel
  have HM : Hid (M (fun _ => False) w _ [blk w.heap.size (.cells oz0 27), xr (w.heap.size + 1) s 0 0]) := ((M.start (fun _ => False) w).alloc (.cells oz0 27) rfl).xnew s hsz (by simp)
  clear hn hnK hsz hO hf hg
  go_enter Tryd.func13, Tryd.ntmps13
  go_wp2_with (first | (refine St.wl_alloc tyO rfl rfl (by (try simp only [World.size_alloc]); rfl) ?_; simp only [Act.put, List.setIfInBounds_toArray, List.set_cons_zero, List.set_cons_succ]) | (go_at_call 42; refine (xnum_k HM.out 1 rfl Hn.out HnK.out).mono ?_; rintro e w2 ⟨rfl, h1⟩; have HM : Hid _ := (M.alloc h1 (.cells (oc 2 0 ByteArray.empty ByteArray.empty Z32 (.slice none 0 0)).toArray 27) rfl); clear h1; have ge := (HM.out.xcells 1 rfl).2; have c0 := HM.out.cell 2 rfl 0 (v := .int .i64 2) rfl; have c2 := HM.out.cell 2 rfl 2 rfl; have c3 := HM.out.cell 2 rfl 3 rfl; have f1 := HM.out.free 2 rfl 1; have f2 := HM.out.free 2 rfl 2; have f3 := HM.out.free 2 rfl 3) | (refine St.wl_buildV (T := 27) (parts := #[(0, Operand.tmp 15)]) rfl rfl (cs := (oc 2 0 ByteArray.empty ByteArray.empty Z32 (.slice none 0 0)).toArray) (by kernel_rfl) ?_; simp only [Act.put, List.setIfInBounds_toArray, List.set_cons_zero, List.set_cons_succ]) | (refine St.wl_buildV (T := 27) (parts := #[]) rfl rfl (cs := oz0) (by kernel_rfl) ?_; simp only [Act.put, List.setIfInBounds_toArray, List.set_cons_zero, List.set_cons_succ]) | (refine St.wl_storeN tyO rfl rfl rfl rfl rfl (by (try simp only [World.size_alloc])) (show _ = Value.agg (oc 2 0 ByteArray.empty ByteArray.empty Z32 (.slice none 0 0)).toArray from rfl) (oc_sz rfl) (oc_sz rfl) (oc_one _ _ _ _ _ _ _ _) ?_) | (go_at_call 43; refine (has_any _ 2 (by decide)).mono ?_; rintro e w3 ⟨rfl, rfl⟩))
  obtain ⟨ob, hob⟩ : ∃ b, w2.heap.size = b := ⟨_, rfl⟩
  rw [hob] at HM ⊢
  clear hob
  go_loopw [7, 8, 9] (fun i _ _ wr => ∃ k : Nat, k ≤ 1 ∧ i = .int .i64 k ∧ (match k with | 0 => M (fun _ => False) w wr [blk w.heap.size (.cells oz0 27), xr (w.heap.size + 1) s a0 0, blk ob (.cells (oc 2 0 ByteArray.empty ByteArray.empty Z32 (.slice none 0 0)).toArray 27)] | _ => M (fun _ => False) w wr [blk w.heap.size (.cells oz0 27), xr (w.heap.size + 1) s a1 b1, blk ob (.cells (oc 2 0 ByteArray.empty V Z32 (.slice none 0 0)).toArray 27)])) (fun i _ _ _ => 1 - (intOf i).toNat)
  case atStart => exact ⟨0, Nat.zero_le _, rfl, HM.out⟩
  case round =>
    obtain ⟨k, hk, rfl, hM⟩ := hrel
    rcases (by omega : k = 0 ∨ k = 1) with rfl | rfl
    · have HM : Hid (M (fun _ => False) w wr [blk w.heap.size (.cells oz0 27), xr (w.heap.size + 1) s a0 0, blk ob (.cells (oc 2 0 ByteArray.empty ByteArray.empty Z32 (.slice none 0 0)).toArray 27)]) := hM
      clear hM hk
      simp only [show ((0 : Nat) : Int) = 0 from rfl]
      have ge := (HM.out.xcells 1 rfl).2; have c0 := HM.out.cell 2 rfl 0 (v := .int .i64 2) rfl; have c2 := HM.out.cell 2 rfl 2 rfl; have c3 := HM.out.cell 2 rfl 3 rfl; have f1 := HM.out.free 2 rfl 1; have f2 := HM.out.free 2 rfl 2; have f3 := HM.out.free 2 rfl 3
      go_wp2_with (first | (go_at_call 42; refine (M.xnum HM.out 1 rfl HnV.out).mono ?_; rintro e w4 ⟨rfl, h1⟩; have HM : Hid _ := h1; clear h1) | (go_at_call 44; refine (M.xraw HM.out 1 rfl HrV.out).mono ?_; rintro e w5 ⟨rfl, h1⟩; have HM : Hid _ := h1; clear h1; have ge := (HM.out.xcells 1 rfl).2; have c0 := HM.out.cell 2 rfl 0 (v := .int .i64 2) rfl; have c2 := HM.out.cell 2 rfl 2 rfl; have c3 := HM.out.cell 2 rfl 3 rfl; have f1 := HM.out.free 2 rfl 1; have f2 := HM.out.free 2 rfl 2; have f3 := HM.out.free 2 rfl 3; have HM : Hid (M (fun _ => False) w _ [blk w.heap.size (.cells oz0 27), xr (w.heap.size + 1) s a1 b1, blk ob (.cells (oc 2 0 ByteArray.empty V Z32 (.slice none 0 0)).toArray 27)]) := HM.out.setc 2 rfl 3 (.string V)))
      go_roundw
      case rel => exact ⟨1, by omega, rfl, HM.out⟩
      case measure => simp [intOf]
    · have HM : Hid (M (fun _ => False) w wr [blk w.heap.size (.cells oz0 27), xr (w.heap.size + 1) s a1 b1, blk ob (.cells (oc 2 0 ByteArray.empty V Z32 (.slice none 0 0)).toArray 27)]) := hM
      clear hM hk
      simp only [show ((1 : Nat) : Int) = 1 from rfl]
      have ge := (HM.out.xcells 1 rfl).2; have c0 := HM.out.cell 2 rfl 0 (v := .int .i64 2) rfl; have c2 := HM.out.cell 2 rfl 2 rfl; have c3 := HM.out.cell 2 rfl 3 rfl; have f1 := HM.out.free 2 rfl 1; have f2 := HM.out.free 2 rfl 2; have f3 := HM.out.free 2 rfl 3
      go_wp2_with (first | (go_at_call 46; refine (M.xend HM.out 1 rfl Hf.out).mono ?_; rintro e w8 ⟨rfl, rfl⟩) | ((with_reducible refine at_load 27 ?_); refine St.wl_load tyO (by rfl) rfl rfl (HM.out.range 2 rfl) (oc_len _ _ _ _ _ _ Hr.out) ?_; simp only [Act.put, List.setIfInBounds_toArray, List.set_cons_zero, List.set_cons_succ]) | (go_at_call 18; refine (rcheck_any _ 2 0 ByteArray.empty V Z32 none 0 0 [] Hr.out (at_nil _) g Hg.out).mono ?_; rintro e w9 ⟨rfl, k1⟩; have HM : Hid _ := HM.out.calm k1; clear k1) | (refine St.wl_buildV (T := 27) rfl rfl (cs := oz0) (by kernel_rfl) ?_; simp only [Act.put, List.setIfInBounds_toArray, List.set_cons_zero, List.set_cons_succ]) | (refine St.wl_store tyO rfl rfl rfl rfl (show _ = Value.agg oz0 from rfl) (oc_sz rfl) (oc_one _ _ _ _ _ _ _ _) (HM.out.get 0 rfl) (oc_sz rfl) ?_; have HM : Hid _ := HM.out.setr 0 rfl oz0) | (refine St.wl_store tyO rfl rfl rfl rfl (show _ = Value.agg (oc 2 0 ByteArray.empty V Z32 (.slice none 0 0)).toArray from rfl) (oc_sz Hr.out) (oc_one _ _ _ _ _ _ _ _) (HM.out.get 0 rfl) (oc_sz rfl) ?_; have HM : Hid _ := HM.out.setr 0 rfl (oc 2 0 ByteArray.empty V Z32 (.slice none 0 0)).toArray))
      all_goals first
        | (refine bodyPost_ret (St.res2 tyO rfl _ _ w.heap.size oz0 (oc_sz rfl) rfl (HM.out.get 0 rfl) _ rfl) rfl ?_
           have e := HO.out
           unfold fin at e
           repeat' split at e
           all_goals first | (subst e; exact of_zero rfl HM.out.keep) | (exfalso; simp_all; done))
        | (refine bodyPost_ret (St.res2 tyO rfl _ _ w.heap.size (oc 2 0 ByteArray.empty V Z32 (.slice none 0 0)).toArray (oc_sz Hr.out) rfl (HM.out.get 0 rfl) _ rfl) rfl ?_
           have e := HO.out
           unfold fin at e
           repeat' split at e
           all_goals first | (subst e; exact ⟨.slice none 0 0, rfl, Own.nil _, HM.out.keep, fun k hk => by simp [Value.ownBlock] at hk⟩) | (exfalso; simp_all; done))
end Ox
end Go.Proofs.YtfoplimdbapdfaaDoor
