/-
  dag.Add: the first header, without parents.
-/
import Derived.Test.YthllhjdaknmlbaaDoorDz3
set_option linter.unusedVariables false
set_option linter.unusedSimpArgs false
namespace Go.Proofs.YthllhjdaknmlbaaDoor
open Go.RowKit
set_option linter.unusedSectionVars false
namespace Dz
open Oct Ids Mp Gn Hd Ru
open Mem (M It blk ids rows)
set_option maxRecDepth 100000 in
set_option maxHeartbeats 4000000 in
theorem dadd {w0 : World} (w : World) (db b0 b1 b2 b3 : Nat) (h : M (fun _ => False) w0 w (di db b0 b1 b2 b3 [] [] [] [])) (hF : Sha.TabF w0) (hK : Sha.TabK w0) (X : Array Value) (hX : h0 1 ca 0 1 1 Z32 = X) :
    Calls Tryd.prog 6 #[.pointer (some ⟨db, 0, none⟩), .agg X] w fun e w' => ∃ (u : Wd) (hv : Array Value) (vt vc : Value), u.length = 32 ∧ e = .returned (.tuple #[idv u, .int .i64 0]) ∧ hv.size = 38 ∧ hv.all (·.oneCell') = true ∧ M (fun _ => False) w0 w' (di db b0 b1 b2 b3 [(u, .agg hv)] [] [(ca, vt)] [(Z32, vc)]) := by
  have HX : Hid _ := hX
  have HF : Hid (Sha.TabF w0) := hF
  have HK : Hid (Sha.TabK w0) := hK
  have HS : Hid (X.size = 38) := by rw [← hX, List.size_toArray]; exact hd_len _ _ _ _ _ _ _ rfl
  have HM : Hid _ := (h.alloc (.cells X 26) rfl).alloc (.cells z32 24) (b := w.heap.size + 1) (by simp)
  have HC : Hid (∀ w, M (fun _ => False) w0 w (di db b0 b1 b2 b3 [] [] [] []) → Calls Tryd.prog 17 #[.pointer (some ⟨db, 0, none⟩), .agg X] w fun e w' => e = .returned (.int .i64 0) ∧ Keep (fun _ => False) w w') := fun w hw => hX ▸ dverdict w db b0 b1 b2 b3 [] [] [] [] hw ca 0 1 1 Z32 rfl (Nat.le_trans (by decide : ca.size ≤ 2) (by unfold maxLen; omega)) awck
  have HI : Hid (∀ w, Sha.TabF w → Sha.TabK w → Calls Tryd.prog 18 #[.agg X] w fun e w' => e = .returned (.tuple #[idv (Sha.sum (hb 0 [] 1 ca 0 1 1 Z32)), .int .i64 0]) ∧ Keep (fun _ => False) w w') := fun w hf hk => hX ▸ ident_ok w hf hk none 0 0 [] 1 ca 0 1 1 Z32 (nil_at w) rfl awck
  have hul : (Sha.sum (hb 0 [] 1 ca 0 1 1 Z32)).length = 32 := Sha.sum_len _
  generalize Sha.sum (hb 0 [] 1 ca 0 1 1 Z32) = u at HI hul
  have HU : Hid (u.length = 32) := hul
  have HU2 : Hid ((u.map bv).toArray.size = 32) := (by show _ = _; rw [List.size_toArray, List.length_map]; exact hul)
  have HCp : Hid (∀ w, Calls Tryd.prog 19 #[.agg X] w fun e w' => ∃ a c, e = .returned (.agg (hd (.slice a 0 c) 1 ca 0 1 1 Z32).toArray) ∧ Keep (fun _ => False) w w') := fun w => hX ▸ dcopied 1 ca 0 1 1 Z32 w rfl
  have HL : Hid (∀ T : List (ByteArray × Value), T = [] → (get T ca).getD (.slice none 0 0) = .slice none 0 0) := fun T h => by rw [h]; rfl
  have HL2 : Hid (∀ C : List (Wd × Value), C = [] → (get C Z32).getD (.slice none 0 0) = .slice none 0 0) := fun C h => by rw [h]; rfl
  have HXl : Hid (X.toList.length = 38) := by rw [Array.length_toList]; exact HS.out
  clear hX hF hK h hul
  go_enter Tryd.func6, Tryd.ntmps6
  go_wp2_with (first | (go_at_call 16; refine (dnone _ db b0 (HM.out.cell 0 rfl 0 rfl)).mono ?_; rintro e w1 ⟨rfl, rfl⟩) | ((with_reducible refine at_load 26 ?_); refine St.wl_load tyH (by rfl) rfl rfl (cs := X.toList) (HM.out.range 5 rfl) (by rw [Array.length_toList]; exact HS.out) ?_; simp only [Act.put, List.setIfInBounds_toArray, List.set_cons_zero, List.set_cons_succ]) | (refine St.wl_alloc tyI rfl rfl (by (try simp only [World.size_alloc]); rfl) ?_; simp only [Act.put, List.setIfInBounds_toArray, List.set_cons_zero, List.set_cons_succ]) | (go_at_call 17; refine (HC.out _ (HM.out.take 5)).mono ?_; rintro e w2 ⟨rfl, k1⟩; have HM : Hid _ := HM.out.calm k1; clear k1) | (go_at_call 18; refine (HI.out _ (HF.out.keep HM.out.keep (fun h => h)) (HK.out.keep HM.out.keep (fun h => h))).mono ?_; rintro e w3 ⟨rfl, k1⟩; have HM : Hid _ := HM.out.calm k1; clear k1) | (refine St.wl_storeN (W := w3) tyI rfl rfl rfl rfl rfl (by (try simp only [World.size_alloc])) (show _ = Value.agg (u.map bv).toArray from rfl) HU2.out rfl (one_bv _) ?_; have HM : Hid _ := HM.out.alloc (.cells (u.map bv).toArray 24) rfl) | ((with_reducible refine at_load 24 ?_); refine wl_loadG (by rfl) rfl rfl HU.out (HM.out.range 7 rfl) ?_; simp only [Act.put, List.setIfInBounds_toArray, List.set_cons_zero, List.set_cons_succ]) | (go_at_call 8; refine (dhas _ db b0 b1 b2 b3 [] [] [] [] (HM.out.take 5) u HU.out (fun v hv => by cases hv)).mono ?_; rintro e w4 ⟨rfl, k1⟩; have HM : Hid _ := HM.out.calm k1; clear k1))
  obtain ⟨g, hg⟩ : ∃ g, w3.heap.size = g := ⟨_, rfl⟩
  obtain ⟨b5, hb5⟩ : ∃ b5, w.heap.size = b5 := ⟨_, rfl⟩
  rw [hg, hb5] at HM
  rw [hg, hb5]
  have HM : Hid _ := HM.out.drew
  refine Txt.wp_region_text1 (fun w' => w'.cell? ⟨db, 0, none⟩ = some (.map (some b0)) ∧ w'.rangeAt g 0 (u.map bv)) [0, 0, 0, 2, 2, 1, 4, 4] (by kernel_rfl) (by kernel_rfl) ⟨HM.out.cell 0 rfl 0 rfl, HM.out.range 7 rfl⟩ ?_
  simp only [List.dropLast]
  (repeat (first | (refine Txt.tl_pure (v := ?_) (by rfl) ?_ ?_; rotate_left; (focus (intro _; go_simp; try with_reducible rfl)); simp only [Act.put, List.setIfInBounds_toArray, List.set_cons_zero, List.set_cons_succ]) | (refine Txt.tl_skip (by rfl) trivial ?_; simp only [Act.put, List.setIfInBounds_toArray, List.set_cons_zero, List.set_cons_succ])))
  refine Txt.tl_loadS (v := .map (some b0)) (by rfl) (by rfl) (by rfl) (by kernel_rfl) (fun _ h => h.1) ?_
  simp only [Act.put, List.setIfInBounds_toArray, List.set_cons_zero, List.set_cons_succ]
  refine Txt.tl_rowSN (n := 32) (ty := 24) (by rfl) (by rfl) (by rfl) (fun _ h => h.2) (by kernel_rfl) (by rw [List.length_map]; exact HU.out) ?_
  simp only [Act.put, List.setIfInBounds_toArray, List.set_cons_zero, List.set_cons_succ]
  refine Txt.tl_rowN (n := 38) (ty := 26) (cs := X.toList) (by rfl) (by rfl) (by rfl) (HM.out.range 5 rfl) (by kernel_rfl) HXl.out ?_
  rw [show X.toList.toArray = X by simp]
  simp only [Act.put, List.setIfInBounds_toArray, List.set_cons_zero, List.set_cons_succ]
  refine Txt.tl_call Tryd.func19 (by kernel_rfl) (by kernel_rfl) (by rfl) (by rfl) (by rfl) (HCp.out _) ?_
  rintro e w5 ⟨a5, c5, rfl, k5⟩
  have HM : Hid _ := HM.out.calm k5
  clear k5
  refine ⟨_, rfl, ⟨HM.out.cell 0 rfl 0 rfl, HM.out.range 7 rfl⟩, ?_⟩
  simp only [Act.put, List.setIfInBounds_toArray, List.set_cons_zero, List.set_cons_succ]
  refine Txt.tl_nil ?_
  refine Txt.tl_last (by rfl) (by rfl) ?_
  refine Mp.wp_put idKey Tryd.underlying31 rfl rfl (HM.out.get 1 rfl) HU.out rfl (v := .agg (hd (.slice a5 0 c5) 1 ca 0 1 1 Z32).toArray) rfl ?_
  intro w6 h6 k6
  have HM : Hid _ := M.setMap HM.out 1 rfl h6 k6
  clear h6 k6
  obtain ⟨hv, hhv⟩ : ∃ hv, (hd (.slice a5 0 c5) 1 ca 0 1 1 Z32).toArray = hv := ⟨_, rfl⟩
  have HV1 : Hid (hv.size = 38) := by rw [← hhv, List.size_toArray]; exact hd_len _ _ _ _ _ _ _ rfl
  have HV2 : Hid (hv.all (·.oneCell') = true) := by rw [← hhv]; exact hd_one _ _ _ _ _ _ _ _ _
  rw [hhv] at HM
  rw [hhv]
  have HM : Hid (M (fun _ => False) w0 w6 (di db b0 b1 b2 b3 [(u, .agg hv)] [] [] [] ++ [blk b5 (.cells X 26), blk (b5 + 1) (.cells z32 24), blk g (.cells (u.map bv).toArray 24)])) := HM.out
  clear hhv
  go_simp
  obtain ⟨d0, _, d2, _⟩ := (h_at HM.out 5 rfl HX.out rfl).cells
  go_wp2
  clear d0 d2
  go_loopw [45] (fun s45 wr => s45 = .int .i64 0 ∧ M (fun _ => False) w0 wr (di db b0 b1 b2 b3 [(u, .agg hv)] [] [] [] ++ [blk b5 (.cells X 26), blk (b5 + 1) (.cells z32 24), blk g (.cells (u.map bv).toArray 24)])) (fun _ _ => 0)
  case atStart => exact ⟨by go_num, HM.out⟩
  case round =>
    clear HM
    obtain ⟨rfl, hM⟩ := hrel
    have HM : Hid _ := hM.drew
    clear hM
    go_wp2
    have d := h_at HM.out 5 rfl HX.out rfl
    have d0 := HM.out.cell 0 rfl 2 (v := .map (some b2)) rfl
    refine Txt.wp_region_text1 (fun w' => w'.cell? ⟨db, 2, none⟩ = some (.map (some b2)) ∧ w'.cell? ⟨b5, 2, none⟩ = some (.string ca)) [0, 0, 0, 2, 0, 2, 0, 0, 0, 0, 1, 0, 1, 1, 1, 4, 4] (by kernel_rfl) (by kernel_rfl) ⟨d0, d.cells.2.2.1⟩ ?_
    simp only [List.dropLast]
    have d2 := d.cells.2.2.1
    (repeat (first | (refine Txt.tl_pure (v := ?_) (by rfl) ?_ ?_; rotate_left; (focus (intro _; go_simp; try with_reducible rfl)); simp only [Act.put, List.setIfInBounds_toArray, List.set_cons_zero, List.set_cons_succ]) | (refine Txt.tl_skip (by rfl) trivial ?_; simp only [Act.put, List.setIfInBounds_toArray, List.set_cons_zero, List.set_cons_succ])))
    refine Txt.tl_loadS (v := .map (some b2)) (by rfl) (by rfl) (by rfl) (by kernel_rfl) (fun _ h => h.1) ?_
    simp only [Act.put, List.setIfInBounds_toArray, List.set_cons_zero, List.set_cons_succ]
    (repeat (first | (refine Txt.tl_pure (v := ?_) (by rfl) ?_ ?_; rotate_left; (focus (intro _; go_simp; try with_reducible rfl)); simp only [Act.put, List.setIfInBounds_toArray, List.set_cons_zero, List.set_cons_succ]) | (refine Txt.tl_skip (by rfl) trivial ?_; simp only [Act.put, List.setIfInBounds_toArray, List.set_cons_zero, List.set_cons_succ])))
    refine Txt.tl_loadS (v := .string ca) (by rfl) (by rfl) (by rfl) (by kernel_rfl) (fun _ h => h.2) ?_
    simp only [Act.put, List.setIfInBounds_toArray, List.set_cons_zero, List.set_cons_succ]
    (repeat (first | (refine Txt.tl_pure (v := ?_) (by rfl) ?_ ?_; rotate_left; (focus (intro _; go_simp; try with_reducible rfl)); simp only [Act.put, List.setIfInBounds_toArray, List.set_cons_zero, List.set_cons_succ]) | (refine Txt.tl_load (v := ?_) (by rfl) (by rfl) (by rfl) (by kernel_rfl) ?_ ?_; rotate_left; (focus assumption); simp only [Act.put, List.setIfInBounds_toArray, List.set_cons_zero, List.set_cons_succ]) | (refine Txt.tl_rowN (n := 32) (ty := 24) (by rfl) (by rfl) (by rfl) (HM.out.range 7 rfl) (by kernel_rfl) (by rw [List.length_map]; exact HU.out) ?_; simp only [Act.put, List.setIfInBounds_toArray, List.set_cons_zero, List.set_cons_succ]) | (refine Txt.tl_skip (by rfl) trivial ?_; simp only [Act.put, List.setIfInBounds_toArray, List.set_cons_zero, List.set_cons_succ])))
    refine Mp.tl_look strKey Tryd.underlying33 (by rfl) rfl rfl (HM.out.get 3 rfl) (zero_of (n := 1) (by kernel_rfl)) trivial rfl (HL.out _ rfl) ?_
    simp only [Act.put, List.setIfInBounds_toArray, List.set_cons_zero, List.set_cons_succ]
    (repeat (first | (refine Txt.tl_pure (v := ?_) (by rfl) ?_ ?_; rotate_left; (focus (intro _; go_simp; try with_reducible rfl)); simp only [Act.put, List.setIfInBounds_toArray, List.set_cons_zero, List.set_cons_succ]) | (refine Txt.tl_load (v := ?_) (by rfl) (by rfl) (by rfl) (by kernel_rfl) ?_ ?_; rotate_left; (focus assumption); simp only [Act.put, List.setIfInBounds_toArray, List.set_cons_zero, List.set_cons_succ]) | (refine Txt.tl_rowN (n := 32) (ty := 24) (by rfl) (by rfl) (by rfl) (HM.out.range 7 rfl) (by kernel_rfl) (by rw [List.length_map]; exact HU.out) ?_; simp only [Act.put, List.setIfInBounds_toArray, List.set_cons_zero, List.set_cons_succ]) | (refine Txt.tl_skip (by rfl) trivial ?_; simp only [Act.put, List.setIfInBounds_toArray, List.set_cons_zero, List.set_cons_succ])))
    refine Txt.tl_call Tryd.func20 (by kernel_rfl) (by kernel_rfl) (by rfl) (by rfl) (by rfl) (dput _ (.pointer (some ⟨db, 0, none⟩)) u HU.out) ?_
    rintro e w7 ⟨v7, rfl, n7⟩
    have HM : Hid _ := HM.out.calm n7.2.1
    clear n7 d d0 d2
    have d := h_at HM.out 5 rfl HX.out rfl
    refine ⟨_, rfl, ⟨HM.out.cell 0 rfl 2 rfl, d.cells.2.2.1⟩, ?_⟩
    simp only [Act.put, List.setIfInBounds_toArray, List.set_cons_zero, List.set_cons_succ]
    refine Txt.tl_nil ?_
    refine Txt.tl_last (by rfl) (by rfl) ?_
    refine Mp.wp_put strKey Tryd.underlying33 rfl rfl (HM.out.get 3 rfl) trivial rfl (v := v7) rfl ?_
    intro w8 h8 k8
    have HM : Hid _ := M.setMap HM.out 3 rfl h8 k8
    clear h8 k8 d
    have HM : Hid (M (fun _ => False) w0 w8 (di db b0 b1 b2 b3 [(u, .agg hv)] [] [(ca, v7)] [] ++ [blk b5 (.cells X 26), blk (b5 + 1) (.cells z32 24), blk g (.cells (u.map bv).toArray 24)])) := HM.out
    go_simp
    go_wp2
    have HM : Hid _ := HM.out.drew
    have d := h_at HM.out 5 rfl HX.out rfl
    have d0 := HM.out.cell 0 rfl 3 (v := .map (some b3)) rfl
    refine Txt.wp_region_text1 (fun w' => w'.cell? ⟨db, 3, none⟩ = some (.map (some b3)) ∧ w'.rangeAt b5 6 (Z32.map bv)) [0, 0, 0, 2, 0, 2, 0, 0, 0, 0, 1, 0, 1, 1, 1, 4, 4] (by kernel_rfl) (by kernel_rfl) ⟨d0, d.commit⟩ ?_
    simp only [List.dropLast]
    (repeat (first | (refine Txt.tl_pure (v := ?_) (by rfl) ?_ ?_; rotate_left; (focus (intro _; go_simp; try with_reducible rfl)); simp only [Act.put, List.setIfInBounds_toArray, List.set_cons_zero, List.set_cons_succ]) | (refine Txt.tl_skip (by rfl) trivial ?_; simp only [Act.put, List.setIfInBounds_toArray, List.set_cons_zero, List.set_cons_succ])))
    refine Txt.tl_loadS (v := .map (some b3)) (by rfl) (by rfl) (by rfl) (by kernel_rfl) (fun _ h => h.1) ?_
    simp only [Act.put, List.setIfInBounds_toArray, List.set_cons_zero, List.set_cons_succ]
    (repeat (first | (refine Txt.tl_pure (v := ?_) (by rfl) ?_ ?_; rotate_left; (focus (intro _; go_simp; try with_reducible rfl)); simp only [Act.put, List.setIfInBounds_toArray, List.set_cons_zero, List.set_cons_succ]) | (refine Txt.tl_skip (by rfl) trivial ?_; simp only [Act.put, List.setIfInBounds_toArray, List.set_cons_zero, List.set_cons_succ])))
    refine Txt.tl_rowSN (n := 32) (ty := 24) (cs := Z32.map bv) (by rfl) (by rfl) (by rfl) (fun _ h => h.2) (by kernel_rfl) (by rfl) ?_
    simp only [Act.put, List.setIfInBounds_toArray, List.set_cons_zero, List.set_cons_succ]
    (repeat (first | (refine Txt.tl_pure (v := ?_) (by rfl) ?_ ?_; rotate_left; (focus (intro _; go_simp; try with_reducible rfl)); simp only [Act.put, List.setIfInBounds_toArray, List.set_cons_zero, List.set_cons_succ]) | (refine Txt.tl_skip (by rfl) trivial ?_; simp only [Act.put, List.setIfInBounds_toArray, List.set_cons_zero, List.set_cons_succ])))
    refine Txt.tl_load (v := .map (some b3)) (by rfl) (by rfl) (by rfl) (by kernel_rfl) d0 ?_
    simp only [Act.put, List.setIfInBounds_toArray, List.set_cons_zero, List.set_cons_succ]
    (repeat (first | (refine Txt.tl_pure (v := ?_) (by rfl) ?_ ?_; rotate_left; (focus (intro _; go_simp; try with_reducible rfl)); simp only [Act.put, List.setIfInBounds_toArray, List.set_cons_zero, List.set_cons_succ]) | (refine Txt.tl_skip (by rfl) trivial ?_; simp only [Act.put, List.setIfInBounds_toArray, List.set_cons_zero, List.set_cons_succ])))
    refine Txt.tl_rowN (n := 32) (ty := 24) (cs := Z32.map bv) (by rfl) (by rfl) (by rfl) d.commit (by kernel_rfl) (by rfl) ?_
    simp only [Act.put, List.setIfInBounds_toArray, List.set_cons_zero, List.set_cons_succ]
    refine Mp.tl_look idKey Tryd.underlying34 (by rfl) rfl rfl (HM.out.get 4 rfl) (zero_of (n := 1) (by kernel_rfl)) (k := Z32) rfl rfl (HL2.out _ rfl) ?_
    simp only [Act.put, List.setIfInBounds_toArray, List.set_cons_zero, List.set_cons_succ]
    (repeat (first | (refine Txt.tl_pure (v := ?_) (by rfl) ?_ ?_; rotate_left; (focus (intro _; go_simp; try with_reducible rfl)); simp only [Act.put, List.setIfInBounds_toArray, List.set_cons_zero, List.set_cons_succ]) | (refine Txt.tl_load (v := ?_) (by rfl) (by rfl) (by rfl) (by kernel_rfl) ?_ ?_; rotate_left; (focus assumption); simp only [Act.put, List.setIfInBounds_toArray, List.set_cons_zero, List.set_cons_succ]) | (refine Txt.tl_rowN (n := 32) (ty := 24) (by rfl) (by rfl) (by rfl) (HM.out.range 7 rfl) (by kernel_rfl) (by rw [List.length_map]; exact HU.out) ?_; simp only [Act.put, List.setIfInBounds_toArray, List.set_cons_zero, List.set_cons_succ]) | (refine Txt.tl_skip (by rfl) trivial ?_; simp only [Act.put, List.setIfInBounds_toArray, List.set_cons_zero, List.set_cons_succ])))
    refine Txt.tl_call Tryd.func20 (by kernel_rfl) (by kernel_rfl) (by rfl) (by rfl) (by rfl) (dput _ (.pointer (some ⟨db, 0, none⟩)) u HU.out) ?_
    rintro e w9 ⟨v9, rfl, n9⟩
    have HM : Hid _ := HM.out.calm n9.2.1
    clear n9 d d0
    have d := h_at HM.out 5 rfl HX.out rfl
    refine ⟨_, rfl, ⟨HM.out.cell 0 rfl 3 rfl, d.commit⟩, ?_⟩
    simp only [Act.put, List.setIfInBounds_toArray, List.set_cons_zero, List.set_cons_succ]
    refine Txt.tl_nil ?_
    refine Txt.tl_last (by rfl) (by rfl) ?_
    refine Mp.wp_put idKey Tryd.underlying34 rfl rfl (HM.out.get 4 rfl) (k := Z32) rfl rfl (v := v9) rfl ?_
    intro wa ha ka
    have HM : Hid _ := M.setMap HM.out 4 rfl ha ka
    clear ha ka d
    have HM : Hid (M (fun _ => False) w0 wa (di db b0 b1 b2 b3 [(u, .agg hv)] [] [(ca, v7)] [(Z32, v9)] ++ [blk b5 (.cells X 26), blk (b5 + 1) (.cells z32 24), blk g (.cells (u.map bv).toArray 24)])) := HM.out
    go_simp
    go_wp2_with (first | ((with_reducible refine at_load 24 ?_); refine wl_loadG (by rfl) rfl rfl HU.out (HM.out.range 7 rfl) ?_; simp only [Act.put, List.setIfInBounds_toArray, List.set_cons_zero, List.set_cons_succ]) | ((with_reducible refine at_store 24 ?_); refine St.wl_store tyI rfl rfl rfl rfl (show _ = Value.agg (u.map bv).toArray from rfl) HU2.out (one_bv _) (HM.out.get 6 rfl) rfl ?_; have HM : Hid _ := HM.out.setr 6 rfl (u.map bv).toArray))
    refine bodyPost_ret (St.res2 tyI rfl _ _ _ (u.map bv).toArray HU2.out rfl (HM.out.get 6 rfl) _ rfl) rfl ?_
    exact ⟨u, hv, v7, v9, HU.out, rfl, HV1.out, HV2.out, HM.out.take 5⟩
end Dz
end Go.Proofs.YthllhjdaknmlbaaDoor
