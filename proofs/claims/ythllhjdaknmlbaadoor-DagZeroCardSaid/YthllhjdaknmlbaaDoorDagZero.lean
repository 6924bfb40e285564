/-
  'petrellaw16.DagZero': a dag that nobody made accepts nothing. For every input.
-/
import Derived.Test.YthllhjdaknmlbaaDoorDz7
import Derived.Test.YthllhjdaknmlbaaDoorLz2
import Derived.Test.YthllhjdaknmlbaaDoorOpnU
import Derived.Test.YthllhjdaknmlbaaDoorTie
import Derived.Test.YthllhjdaknmlbaaDoorCards
import Derived.SevenTiedAt
import Derived.Stop.Joined
set_option linter.unusedVariables false
set_option linter.unusedSimpArgs false
namespace Go.Proofs.YthllhjdaknmlbaaDoor
open Go.RowKit
namespace DagZero
open Oct Ids Gn Hd Ru Dz Go.ChangeShapes Go.WideShapes Go.ChangeAt
open Mem (M It blk ids rows)
abbrev zc : Obj := .cells zd 36
set_option maxRecDepth 100000 in
set_option maxHeartbeats 8000000 in
theorem walk (G : Int) (T : ByteArray) (A Q Z : Int) (m : List UInt8) (a : Option Addr) (n c : Nat) (l : List (List UInt8)) (u : List UInt8) (w : World) (hT : Sha.TabF w ∧ Sha.TabK w) (hm : m.length = 32) (h1 : At w a n l) (hTz : T.size ≤ maxLen) (hu : u.length = 32) :
    Calls Tryd.prog 3 #[.agg (hd (.slice a n c) G T A Q Z m).toArray, idv u] w fun e w' => e = .returned (.bool true) ∧ Below w.heap.size w w' := by
  obtain ⟨hb, hhb⟩ : ∃ hb, w.heap.size = hb := ⟨_, rfl⟩
  have HM : Hid (M (fun _ => False) w _ [blk hb (.cells (hd (.slice a n c) G T A Q Z m).toArray 26), blk (hb + 1) (.cells (u.map bv).toArray 24)]) := ((M.start _ w).alloc (.cells (hd (.slice a n c) G T A Q Z m).toArray 26) hhb).alloc (.cells (u.map bv).toArray 24) (by simp [hhb])
  obtain ⟨X, hX⟩ : ∃ X, (hd (.slice a n c) G T A Q Z m).toArray = X := ⟨_, rfl⟩
  have HX : Hid ((hd (.slice a n c) G T A Q Z m).toArray = X) := hX
  have HS : Hid (X.size = 38) := by rw [← hX, List.size_toArray]; exact hd_len _ _ _ _ _ _ _ hm
  have HXl : Hid (X.toList.length = 38) := by rw [Array.length_toList]; exact HS.out
  have H1 : Hid (X.all (·.oneCell') = true) := by rw [← hX]; exact hd_one _ _ _ _ _ _ _ _ _
  rw [hX] at HM ⊢
  have HF : Hid (Sha.TabF w) := hT.1
  have HK : Hid (Sha.TabK w) := hT.2
  have Hr : Hid (m.length = 32) := hm
  have Lu : Hid (u.length = 32) := hu
  have hm1 := h1.most
  unfold maxLen at hm1 hTz
  have HZ : Hid ((Z32.map bv).toArray.size = 32) := (rfl : _ = _)
  have HQ : Hid (∀ wr, M (fun _ => False) w wr [blk hb (.cells X 26), blk (hb + 1) (.cells (u.map bv).toArray 24), blk (hb + 1 + 1) (.cells X 26), blk (hb + 1 + 1 + 1) zc] → wr.cell? ⟨hb, 2, none⟩ = some (.string T) ∧ wr.rangeAt (hb + 1) 0 (u.map bv) ∧ wr.rangeAt hb 0 (hd (.slice a n c) G T A Q Z m)) := fun wr hh => ⟨(h_at hh 0 rfl hX hm).cells.2.2.1, hh.range 1 rfl, (h_at hh 0 rfl hX hm).all⟩
  clear hX hT hm h1 hu
  by_cases hgo : n ≤ 20 ∧ T.size ≤ 100
  · obtain ⟨h60, h61⟩ := hgo
    go_enter Tryd.func3, Tryd.ntmps3
    go_wp2_with (first | ((with_reducible refine Dz.at_load 26 ?_); refine St.wl_load tyH (by rfl) rfl rfl (h_at HM.out 0 rfl HX.out Hr.out).all (hd_len _ _ _ _ _ _ _ Hr.out) ?_; simp only [Act.put, List.setIfInBounds_toArray, List.set_cons_zero, List.set_cons_succ]) | (refine St.wl_build slHe (by decide) rfl rfl (cs := hd (.slice a n c) G T A Q Z m) (hd_len _ _ _ _ _ _ _ Hr.out) rfl ?_; rw [HX.out]; have HM : Hid _ := HM.out.alloc (.cells X 26) (by simp only [World.size_alloc, hhb]; rfl); simp only [Act.put, List.setIfInBounds_toArray, List.set_cons_zero, List.set_cons_succ]) | (go_at_call 4; refine (much_no _ _ a n c G T A Q Z m (h_at HM.out 2 rfl HX.out Hr.out) h60 h61).mono ?_; rintro e w1 ⟨rfl, hw1⟩; rw [hw1]; clear hw1) | (refine St.wl_alloc tyD rfl rfl (by simp only [World.size_alloc, hhb]; rfl) ?_; have HM : Hid _ := HM.out.alloc zc (by simp only [World.size_alloc, hhb]; rfl); simp only [Act.put, List.setIfInBounds_toArray, List.set_cons_zero, List.set_cons_succ]) | ((with_reducible refine Dz.at_call #[.pointer none, .agg (hd (.slice a n c) G T A Q Z m).toArray] ?_); go_at_call 6; refine (zadd _ (.pointer none) (.inl rfl) _).mono ?_; rintro e w2 ⟨rfl, k1⟩; have HM : Hid _ := HM.out.calm k1; clear k1) | (go_at_call 6; refine (zadd _ (.pointer (some ⟨hb + 1 + 1 + 1, 0, none⟩)) (.inr ⟨_, rfl, HM.out.get 3 rfl⟩) _).mono ?_; rintro e w2 ⟨rfl, k1⟩; have HM : Hid _ := HM.out.calm k1; clear k1) | (refine St.wl_alloc tyI rfl rfl (by (try simp only [World.size_alloc]); rfl) ?_; simp only [Act.put, List.setIfInBounds_toArray, List.set_cons_zero, List.set_cons_succ]) | (refine St.wl_storeN (W := w2) tyI rfl rfl rfl rfl rfl (by (try simp only [World.size_alloc])) (show _ = Value.agg (Z32.map bv).toArray from rfl) HZ.out rfl (one_bv _) ?_; have HM : Hid _ := HM.out.alloc (.cells (Z32.map bv).toArray 24) rfl) | ((with_reducible refine Dz.at_load 24 ?_); refine Gn.wl_loadG (by rfl) rfl rfl Lu.out (HM.out.range 1 rfl) ?_; simp only [Act.put, List.setIfInBounds_toArray, List.set_cons_zero, List.set_cons_succ]) | ((with_reducible refine Dz.at_call #[.pointer none, idv u] ?_); go_at_call 7; refine (zget _ (.pointer none) (.inl rfl) u).mono ?_; rintro e w2 ⟨rfl, k1⟩; have HM : Hid _ := HM.out.calm k1; clear k1) | (go_at_call 7; refine (zget _ (.pointer (some ⟨hb + 1 + 1 + 1, 0, none⟩)) (.inr ⟨_, rfl, HM.out.get 3 rfl⟩) u).mono ?_; rintro e w2 ⟨rfl, k1⟩; have HM : Hid _ := HM.out.calm k1; clear k1) | (refine St.wl_alloc tyH rfl rfl (by (try simp only [World.size_alloc]); rfl) ?_; simp only [Act.put, List.setIfInBounds_toArray, List.set_cons_zero, List.set_cons_succ]) | (refine St.wl_storeN (W := w2) tyH rfl rfl rfl rfl rfl (by (try simp only [World.size_alloc])) (show _ = Value.agg hz0 from rfl) rfl rfl (hd_one _ _ _ _ _ _ _ _ _) ?_; have HM : Hid _ := HM.out.alloc (.cells hz0 26) rfl))
    have HM : Hid (M (fun _ => False) w _ [blk hb (.cells X 26), blk (hb + 1) (.cells (u.map bv).toArray 24), blk (hb + 1 + 1) (.cells X 26), blk (hb + 1 + 1 + 1) zc]) := HM.out.drew.take 4
    refine Txt.wp_region_text (id := 9) (fun w' => w'.cell? ⟨hb, 2, none⟩ = some (.string T) ∧ w'.rangeAt (hb + 1) 0 (u.map bv) ∧ w'.rangeAt hb 0 (hd (.slice a n c) G T A Q Z m)) [0, 0, 0, 0, 0, 0, 0, 0, 0, 0, 0, 0, 0, 0, 0, 0, 0, 0, 0, 1, 4, 0, 0, 0, 1, 4, 0, 0, 0, 0, 4, 4, 0, 0, 4, 0, 0, 4, 0, 0, 0, 4, 0, 0, 0, 2, 4, 0, 0, 0, 2, 4, 0, 0, 2, 4, 0, 0, 0, 0, 0, 4, 0, 0] (by kernel_rfl) (by kernel_rfl) (HQ.out _ HM.out) ?_
    (repeat (first | (refine Txt.tl_pure (v := ?_) (by rfl) ?_ ?_; rotate_left; (focus (intro _; go_simp; try with_reducible rfl)); simp only [Act.put, List.setIfInBounds_toArray, List.set_cons_zero, List.set_cons_succ]) | (refine Txt.tl_loadS (v := .string T) (by rfl) (by rfl) (by rfl) (by kernel_rfl) (fun _ h => h.1) ?_; simp only [Act.put, List.setIfInBounds_toArray, List.set_cons_zero, List.set_cons_succ]) | (refine Txt.tl_rowN (n := 32) (ty := 24) (by rfl) (by rfl) (by rfl) (HM.out.range 1 rfl) (by kernel_rfl) (by rw [List.length_map]; exact Lu.out) ?_; simp only [Act.put, List.setIfInBounds_toArray, List.set_cons_zero, List.set_cons_succ]) | (refine Txt.tl_rowSN (n := 32) (ty := 24) (by rfl) (by rfl) (by rfl) (fun _ h => h.2.1) (by kernel_rfl) (by rw [List.length_map]; exact Lu.out) ?_; simp only [Act.put, List.setIfInBounds_toArray, List.set_cons_zero, List.set_cons_succ]) | (refine Txt.tl_rowSN (n := 38) (ty := 26) (by rfl) (by rfl) (by rfl) (fun _ h => h.2.2) (by kernel_rfl) (hd_len _ _ _ _ _ _ _ Hr.out) ?_; simp only [Act.put, List.setIfInBounds_toArray, List.set_cons_zero, List.set_cons_succ])))
    refine Txt.tl_call Tryd.func8 (by kernel_rfl) (by kernel_rfl) (by rfl) (by rfl) (by rfl) (zhas _ (.pointer none) (.inl rfl) u) ?_
    rintro e w3 ⟨rfl, k3⟩
    have HM : Hid _ := HM.out.calm k3
    clear k3
    refine ⟨_, rfl, HQ.out _ HM.out, ?_⟩
    simp only [Act.put, List.setIfInBounds_toArray, List.set_cons_zero, List.set_cons_succ]
    (repeat (first | (refine Txt.tl_pure (v := ?_) (by rfl) ?_ ?_; rotate_left; (focus (intro _; go_simp; try with_reducible rfl)); simp only [Act.put, List.setIfInBounds_toArray, List.set_cons_zero, List.set_cons_succ]) | (refine Txt.tl_loadS (v := .string T) (by rfl) (by rfl) (by rfl) (by kernel_rfl) (fun _ h => h.1) ?_; simp only [Act.put, List.setIfInBounds_toArray, List.set_cons_zero, List.set_cons_succ]) | (refine Txt.tl_rowN (n := 32) (ty := 24) (by rfl) (by rfl) (by rfl) (HM.out.range 1 rfl) (by kernel_rfl) (by rw [List.length_map]; exact Lu.out) ?_; simp only [Act.put, List.setIfInBounds_toArray, List.set_cons_zero, List.set_cons_succ]) | (refine Txt.tl_rowSN (n := 32) (ty := 24) (by rfl) (by rfl) (by rfl) (fun _ h => h.2.1) (by kernel_rfl) (by rw [List.length_map]; exact Lu.out) ?_; simp only [Act.put, List.setIfInBounds_toArray, List.set_cons_zero, List.set_cons_succ]) | (refine Txt.tl_rowSN (n := 38) (ty := 26) (by rfl) (by rfl) (by rfl) (fun _ h => h.2.2) (by kernel_rfl) (hd_len _ _ _ _ _ _ _ Hr.out) ?_; simp only [Act.put, List.setIfInBounds_toArray, List.set_cons_zero, List.set_cons_succ])))
    refine Txt.tl_call Tryd.func8 (by kernel_rfl) (by kernel_rfl) (by rfl) (by rfl) (by rfl) (zhas _ (.pointer (some ⟨hb + 1 + 1 + 1, 0, none⟩)) (.inr ⟨_, rfl, HM.out.get 3 rfl⟩) u) ?_
    rintro e w3 ⟨rfl, k3⟩
    have HM : Hid _ := HM.out.calm k3
    clear k3
    refine ⟨_, rfl, HQ.out _ HM.out, ?_⟩
    simp only [Act.put, List.setIfInBounds_toArray, List.set_cons_zero, List.set_cons_succ]
    (repeat (first | (refine Txt.tl_pure (v := ?_) (by rfl) ?_ ?_; rotate_left; (focus (intro _; go_simp; try with_reducible rfl)); simp only [Act.put, List.setIfInBounds_toArray, List.set_cons_zero, List.set_cons_succ]) | (refine Txt.tl_loadS (v := .string T) (by rfl) (by rfl) (by rfl) (by kernel_rfl) (fun _ h => h.1) ?_; simp only [Act.put, List.setIfInBounds_toArray, List.set_cons_zero, List.set_cons_succ]) | (refine Txt.tl_rowN (n := 32) (ty := 24) (by rfl) (by rfl) (by rfl) (HM.out.range 1 rfl) (by kernel_rfl) (by rw [List.length_map]; exact Lu.out) ?_; simp only [Act.put, List.setIfInBounds_toArray, List.set_cons_zero, List.set_cons_succ]) | (refine Txt.tl_rowSN (n := 32) (ty := 24) (by rfl) (by rfl) (by rfl) (fun _ h => h.2.1) (by kernel_rfl) (by rw [List.length_map]; exact Lu.out) ?_; simp only [Act.put, List.setIfInBounds_toArray, List.set_cons_zero, List.set_cons_succ]) | (refine Txt.tl_rowSN (n := 38) (ty := 26) (by rfl) (by rfl) (by rfl) (fun _ h => h.2.2) (by kernel_rfl) (hd_len _ _ _ _ _ _ _ Hr.out) ?_; simp only [Act.put, List.setIfInBounds_toArray, List.set_cons_zero, List.set_cons_succ])))
    refine Txt.tl_call Tryd.func9 (by kernel_rfl) (by kernel_rfl) (by rfl) (by rfl) (by rfl) (zlen _ (.pointer none) (.inl rfl)) ?_
    rintro e w3 ⟨rfl, h3⟩
    rw [h3]
    clear h3
    refine ⟨_, rfl, HQ.out _ HM.out, ?_⟩
    simp only [Act.put, List.setIfInBounds_toArray, List.set_cons_zero, List.set_cons_succ]
    (repeat (first | (refine Txt.tl_pure (v := ?_) (by rfl) ?_ ?_; rotate_left; (focus (intro _; go_simp; try with_reducible rfl)); simp only [Act.put, List.setIfInBounds_toArray, List.set_cons_zero, List.set_cons_succ]) | (refine Txt.tl_loadS (v := .string T) (by rfl) (by rfl) (by rfl) (by kernel_rfl) (fun _ h => h.1) ?_; simp only [Act.put, List.setIfInBounds_toArray, List.set_cons_zero, List.set_cons_succ]) | (refine Txt.tl_rowN (n := 32) (ty := 24) (by rfl) (by rfl) (by rfl) (HM.out.range 1 rfl) (by kernel_rfl) (by rw [List.length_map]; exact Lu.out) ?_; simp only [Act.put, List.setIfInBounds_toArray, List.set_cons_zero, List.set_cons_succ]) | (refine Txt.tl_rowSN (n := 32) (ty := 24) (by rfl) (by rfl) (by rfl) (fun _ h => h.2.1) (by kernel_rfl) (by rw [List.length_map]; exact Lu.out) ?_; simp only [Act.put, List.setIfInBounds_toArray, List.set_cons_zero, List.set_cons_succ]) | (refine Txt.tl_rowSN (n := 38) (ty := 26) (by rfl) (by rfl) (by rfl) (fun _ h => h.2.2) (by kernel_rfl) (hd_len _ _ _ _ _ _ _ Hr.out) ?_; simp only [Act.put, List.setIfInBounds_toArray, List.set_cons_zero, List.set_cons_succ])))
    refine Txt.tl_call Tryd.func9 (by kernel_rfl) (by kernel_rfl) (by rfl) (by rfl) (by rfl) (zlen _ (.pointer (some ⟨hb + 1 + 1 + 1, 0, none⟩)) (.inr ⟨_, rfl, HM.out.get 3 rfl⟩)) ?_
    rintro e w3 ⟨rfl, h3⟩
    rw [h3]
    clear h3
    refine ⟨_, rfl, HQ.out _ HM.out, ?_⟩
    simp only [Act.put, List.setIfInBounds_toArray, List.set_cons_zero, List.set_cons_succ]
    (repeat (first | (refine Txt.tl_pure (v := ?_) (by rfl) ?_ ?_; rotate_left; (focus (intro _; go_simp; try with_reducible rfl)); simp only [Act.put, List.setIfInBounds_toArray, List.set_cons_zero, List.set_cons_succ]) | (refine Txt.tl_loadS (v := .string T) (by rfl) (by rfl) (by rfl) (by kernel_rfl) (fun _ h => h.1) ?_; simp only [Act.put, List.setIfInBounds_toArray, List.set_cons_zero, List.set_cons_succ]) | (refine Txt.tl_rowN (n := 32) (ty := 24) (by rfl) (by rfl) (by rfl) (HM.out.range 1 rfl) (by kernel_rfl) (by rw [List.length_map]; exact Lu.out) ?_; simp only [Act.put, List.setIfInBounds_toArray, List.set_cons_zero, List.set_cons_succ]) | (refine Txt.tl_rowSN (n := 32) (ty := 24) (by rfl) (by rfl) (by rfl) (fun _ h => h.2.1) (by kernel_rfl) (by rw [List.length_map]; exact Lu.out) ?_; simp only [Act.put, List.setIfInBounds_toArray, List.set_cons_zero, List.set_cons_succ]) | (refine Txt.tl_rowSN (n := 38) (ty := 26) (by rfl) (by rfl) (by rfl) (fun _ h => h.2.2) (by kernel_rfl) (hd_len _ _ _ _ _ _ _ Hr.out) ?_; simp only [Act.put, List.setIfInBounds_toArray, List.set_cons_zero, List.set_cons_succ])))
    refine Txt.tl_call Tryd.func10 (by kernel_rfl) (by kernel_rfl) (by rfl) (by rfl) (by rfl) (zall _ (.pointer none) (.inl rfl)) ?_
    rintro e w3 ⟨rfl, h3⟩
    rw [h3]
    clear h3
    refine ⟨_, rfl, HQ.out _ HM.out, ?_⟩
    simp only [Act.put, List.setIfInBounds_toArray, List.set_cons_zero, List.set_cons_succ]
    (repeat (first | (refine Txt.tl_pure (v := ?_) (by rfl) ?_ ?_; rotate_left; (focus (intro _; go_simp; try with_reducible rfl)); simp only [Act.put, List.setIfInBounds_toArray, List.set_cons_zero, List.set_cons_succ]) | (refine Txt.tl_loadS (v := .string T) (by rfl) (by rfl) (by rfl) (by kernel_rfl) (fun _ h => h.1) ?_; simp only [Act.put, List.setIfInBounds_toArray, List.set_cons_zero, List.set_cons_succ]) | (refine Txt.tl_rowN (n := 32) (ty := 24) (by rfl) (by rfl) (by rfl) (HM.out.range 1 rfl) (by kernel_rfl) (by rw [List.length_map]; exact Lu.out) ?_; simp only [Act.put, List.setIfInBounds_toArray, List.set_cons_zero, List.set_cons_succ]) | (refine Txt.tl_rowSN (n := 32) (ty := 24) (by rfl) (by rfl) (by rfl) (fun _ h => h.2.1) (by kernel_rfl) (by rw [List.length_map]; exact Lu.out) ?_; simp only [Act.put, List.setIfInBounds_toArray, List.set_cons_zero, List.set_cons_succ]) | (refine Txt.tl_rowSN (n := 38) (ty := 26) (by rfl) (by rfl) (by rfl) (fun _ h => h.2.2) (by kernel_rfl) (hd_len _ _ _ _ _ _ _ Hr.out) ?_; simp only [Act.put, List.setIfInBounds_toArray, List.set_cons_zero, List.set_cons_succ])))
    refine Txt.tl_call Tryd.func10 (by kernel_rfl) (by kernel_rfl) (by rfl) (by rfl) (by rfl) (zall _ (.pointer (some ⟨hb + 1 + 1 + 1, 0, none⟩)) (.inr ⟨_, rfl, HM.out.get 3 rfl⟩)) ?_
    rintro e w3 ⟨rfl, h3⟩
    rw [h3]
    clear h3
    refine ⟨_, rfl, HQ.out _ HM.out, ?_⟩
    simp only [Act.put, List.setIfInBounds_toArray, List.set_cons_zero, List.set_cons_succ]
    (repeat (first | (refine Txt.tl_pure (v := ?_) (by rfl) ?_ ?_; rotate_left; (focus (intro _; go_simp; try with_reducible rfl)); simp only [Act.put, List.setIfInBounds_toArray, List.set_cons_zero, List.set_cons_succ]) | (refine Txt.tl_loadS (v := .string T) (by rfl) (by rfl) (by rfl) (by kernel_rfl) (fun _ h => h.1) ?_; simp only [Act.put, List.setIfInBounds_toArray, List.set_cons_zero, List.set_cons_succ]) | (refine Txt.tl_rowN (n := 32) (ty := 24) (by rfl) (by rfl) (by rfl) (HM.out.range 1 rfl) (by kernel_rfl) (by rw [List.length_map]; exact Lu.out) ?_; simp only [Act.put, List.setIfInBounds_toArray, List.set_cons_zero, List.set_cons_succ]) | (refine Txt.tl_rowSN (n := 32) (ty := 24) (by rfl) (by rfl) (by rfl) (fun _ h => h.2.1) (by kernel_rfl) (by rw [List.length_map]; exact Lu.out) ?_; simp only [Act.put, List.setIfInBounds_toArray, List.set_cons_zero, List.set_cons_succ]) | (refine Txt.tl_rowSN (n := 38) (ty := 26) (by rfl) (by rfl) (by rfl) (fun _ h => h.2.2) (by kernel_rfl) (hd_len _ _ _ _ _ _ _ Hr.out) ?_; simp only [Act.put, List.setIfInBounds_toArray, List.set_cons_zero, List.set_cons_succ])))
    refine Txt.tl_call Tryd.func11 (by kernel_rfl) (by kernel_rfl) (by rfl) (by rfl) (by rfl) (zheads _ (.pointer none) rfl) ?_
    rintro e w3 ⟨rfl, k3⟩
    have HM : Hid _ := HM.out.calm k3
    clear k3
    refine ⟨_, rfl, HQ.out _ HM.out, ?_⟩
    simp only [Act.put, List.setIfInBounds_toArray, List.set_cons_zero, List.set_cons_succ]
    (repeat (first | (refine Txt.tl_pure (v := ?_) (by rfl) ?_ ?_; rotate_left; (focus (intro _; go_simp; try with_reducible rfl)); simp only [Act.put, List.setIfInBounds_toArray, List.set_cons_zero, List.set_cons_succ]) | (refine Txt.tl_loadS (v := .string T) (by rfl) (by rfl) (by rfl) (by kernel_rfl) (fun _ h => h.1) ?_; simp only [Act.put, List.setIfInBounds_toArray, List.set_cons_zero, List.set_cons_succ]) | (refine Txt.tl_rowN (n := 32) (ty := 24) (by rfl) (by rfl) (by rfl) (HM.out.range 1 rfl) (by kernel_rfl) (by rw [List.length_map]; exact Lu.out) ?_; simp only [Act.put, List.setIfInBounds_toArray, List.set_cons_zero, List.set_cons_succ]) | (refine Txt.tl_rowSN (n := 32) (ty := 24) (by rfl) (by rfl) (by rfl) (fun _ h => h.2.1) (by kernel_rfl) (by rw [List.length_map]; exact Lu.out) ?_; simp only [Act.put, List.setIfInBounds_toArray, List.set_cons_zero, List.set_cons_succ]) | (refine Txt.tl_rowSN (n := 38) (ty := 26) (by rfl) (by rfl) (by rfl) (fun _ h => h.2.2) (by kernel_rfl) (hd_len _ _ _ _ _ _ _ Hr.out) ?_; simp only [Act.put, List.setIfInBounds_toArray, List.set_cons_zero, List.set_cons_succ])))
    refine Txt.tl_call Tryd.func12 (by kernel_rfl) (by kernel_rfl) (by rfl) (by rfl) (by rfl) (ztopic _ (.pointer (some ⟨hb + 1 + 1 + 1, 0, none⟩)) (.inr ⟨_, rfl, HM.out.get 3 rfl⟩) T) ?_
    rintro e w3 ⟨rfl, h3⟩
    rw [h3]
    clear h3
    refine ⟨_, rfl, HQ.out _ HM.out, ?_⟩
    simp only [Act.put, List.setIfInBounds_toArray, List.set_cons_zero, List.set_cons_succ]
    (repeat (first | (refine Txt.tl_pure (v := ?_) (by rfl) ?_ ?_; rotate_left; (focus (intro _; go_simp; try with_reducible rfl)); simp only [Act.put, List.setIfInBounds_toArray, List.set_cons_zero, List.set_cons_succ]) | (refine Txt.tl_loadS (v := .string T) (by rfl) (by rfl) (by rfl) (by kernel_rfl) (fun _ h => h.1) ?_; simp only [Act.put, List.setIfInBounds_toArray, List.set_cons_zero, List.set_cons_succ]) | (refine Txt.tl_rowN (n := 32) (ty := 24) (by rfl) (by rfl) (by rfl) (HM.out.range 1 rfl) (by kernel_rfl) (by rw [List.length_map]; exact Lu.out) ?_; simp only [Act.put, List.setIfInBounds_toArray, List.set_cons_zero, List.set_cons_succ]) | (refine Txt.tl_rowSN (n := 32) (ty := 24) (by rfl) (by rfl) (by rfl) (fun _ h => h.2.1) (by kernel_rfl) (by rw [List.length_map]; exact Lu.out) ?_; simp only [Act.put, List.setIfInBounds_toArray, List.set_cons_zero, List.set_cons_succ]) | (refine Txt.tl_rowSN (n := 38) (ty := 26) (by rfl) (by rfl) (by rfl) (fun _ h => h.2.2) (by kernel_rfl) (hd_len _ _ _ _ _ _ _ Hr.out) ?_; simp only [Act.put, List.setIfInBounds_toArray, List.set_cons_zero, List.set_cons_succ])))
    refine Txt.tl_call Tryd.func13 (by kernel_rfl) (by kernel_rfl) (by rfl) (by rfl) (by rfl) (zcommitted _ (.pointer none) (.inl rfl) u) ?_
    rintro e w3 ⟨rfl, k3⟩
    have HM : Hid _ := HM.out.calm k3
    clear k3
    refine ⟨_, rfl, HQ.out _ HM.out, ?_⟩
    simp only [Act.put, List.setIfInBounds_toArray, List.set_cons_zero, List.set_cons_succ]
    (repeat (first | (refine Txt.tl_pure (v := ?_) (by rfl) ?_ ?_; rotate_left; (focus (intro _; go_simp; try with_reducible rfl)); simp only [Act.put, List.setIfInBounds_toArray, List.set_cons_zero, List.set_cons_succ]) | (refine Txt.tl_loadS (v := .string T) (by rfl) (by rfl) (by rfl) (by kernel_rfl) (fun _ h => h.1) ?_; simp only [Act.put, List.setIfInBounds_toArray, List.set_cons_zero, List.set_cons_succ]) | (refine Txt.tl_rowN (n := 32) (ty := 24) (by rfl) (by rfl) (by rfl) (HM.out.range 1 rfl) (by kernel_rfl) (by rw [List.length_map]; exact Lu.out) ?_; simp only [Act.put, List.setIfInBounds_toArray, List.set_cons_zero, List.set_cons_succ]) | (refine Txt.tl_rowSN (n := 32) (ty := 24) (by rfl) (by rfl) (by rfl) (fun _ h => h.2.1) (by kernel_rfl) (by rw [List.length_map]; exact Lu.out) ?_; simp only [Act.put, List.setIfInBounds_toArray, List.set_cons_zero, List.set_cons_succ]) | (refine Txt.tl_rowSN (n := 38) (ty := 26) (by rfl) (by rfl) (by rfl) (fun _ h => h.2.2) (by kernel_rfl) (hd_len _ _ _ _ _ _ _ Hr.out) ?_; simp only [Act.put, List.setIfInBounds_toArray, List.set_cons_zero, List.set_cons_succ])))
    refine Txt.tl_call Tryd.func14 (by kernel_rfl) (by kernel_rfl) (by rfl) (by rfl) (by rfl) (zunknown _ (.pointer (some ⟨hb + 1 + 1 + 1, 0, none⟩)) (.inr ⟨_, rfl, HM.out.get 3 rfl⟩) (hd (.slice a n c) G T A Q Z m).toArray) ?_
    rintro e w3 ⟨rfl, k3⟩
    have HM : Hid _ := HM.out.calm k3
    clear k3
    refine ⟨_, rfl, HQ.out _ HM.out, ?_⟩
    simp only [Act.put, List.setIfInBounds_toArray, List.set_cons_zero, List.set_cons_succ]
    (repeat (first | (refine Txt.tl_pure (v := ?_) (by rfl) ?_ ?_; rotate_left; (focus (intro _; go_simp; try with_reducible rfl)); simp only [Act.put, List.setIfInBounds_toArray, List.set_cons_zero, List.set_cons_succ]) | (refine Txt.tl_loadS (v := .string T) (by rfl) (by rfl) (by rfl) (by kernel_rfl) (fun _ h => h.1) ?_; simp only [Act.put, List.setIfInBounds_toArray, List.set_cons_zero, List.set_cons_succ]) | (refine Txt.tl_rowN (n := 32) (ty := 24) (by rfl) (by rfl) (by rfl) (HM.out.range 1 rfl) (by kernel_rfl) (by rw [List.length_map]; exact Lu.out) ?_; simp only [Act.put, List.setIfInBounds_toArray, List.set_cons_zero, List.set_cons_succ]) | (refine Txt.tl_rowSN (n := 32) (ty := 24) (by rfl) (by rfl) (by rfl) (fun _ h => h.2.1) (by kernel_rfl) (by rw [List.length_map]; exact Lu.out) ?_; simp only [Act.put, List.setIfInBounds_toArray, List.set_cons_zero, List.set_cons_succ]) | (refine Txt.tl_rowSN (n := 38) (ty := 26) (by rfl) (by rfl) (by rfl) (fun _ h => h.2.2) (by kernel_rfl) (hd_len _ _ _ _ _ _ _ Hr.out) ?_; simp only [Act.put, List.setIfInBounds_toArray, List.set_cons_zero, List.set_cons_succ])))
    refine Txt.tl_call Tryd.func5 (by kernel_rfl) (by kernel_rfl) (by rfl) (by rfl) (by rfl) (dawake _ (HF.out.keep HM.out.keep (fun h => h)) (HK.out.keep HM.out.keep (fun h => h))) ?_
    rintro e w3 ⟨rfl, k3⟩
    have HM : Hid _ := HM.out.calm k3
    clear k3
    refine ⟨_, rfl, HQ.out _ HM.out, ?_⟩
    simp only [Act.put, List.setIfInBounds_toArray, List.set_cons_zero, List.set_cons_succ]
    (repeat (first | (refine Txt.tl_pure (v := ?_) (by rfl) ?_ ?_; rotate_left; (focus (intro _; go_simp; try with_reducible rfl)); simp only [Act.put, List.setIfInBounds_toArray, List.set_cons_zero, List.set_cons_succ]) | (refine Txt.tl_loadS (v := .string T) (by rfl) (by rfl) (by rfl) (by kernel_rfl) (fun _ h => h.1) ?_; simp only [Act.put, List.setIfInBounds_toArray, List.set_cons_zero, List.set_cons_succ]) | (refine Txt.tl_rowN (n := 32) (ty := 24) (by rfl) (by rfl) (by rfl) (HM.out.range 1 rfl) (by kernel_rfl) (by rw [List.length_map]; exact Lu.out) ?_; simp only [Act.put, List.setIfInBounds_toArray, List.set_cons_zero, List.set_cons_succ]) | (refine Txt.tl_rowSN (n := 32) (ty := 24) (by rfl) (by rfl) (by rfl) (fun _ h => h.2.1) (by kernel_rfl) (by rw [List.length_map]; exact Lu.out) ?_; simp only [Act.put, List.setIfInBounds_toArray, List.set_cons_zero, List.set_cons_succ]) | (refine Txt.tl_rowSN (n := 38) (ty := 26) (by rfl) (by rfl) (by rfl) (fun _ h => h.2.2) (by kernel_rfl) (hd_len _ _ _ _ _ _ _ Hr.out) ?_; simp only [Act.put, List.setIfInBounds_toArray, List.set_cons_zero, List.set_cons_succ])))
    refine Txt.tl_nil ?_
    go_wp2
    go_ret
    exact ⟨rfl, Keep.below HM.out.keep (Nat.le_refl _) (fun _ h => h.elim)⟩
  · have hgo' : 20 < n ∨ (n ≤ 20 ∧ 100 < T.size) := by omega
    clear hgo
    go_enter Tryd.func3, Tryd.ntmps3
    go_wp2_with (first | ((with_reducible refine Dz.at_load 26 ?_); refine St.wl_load tyH (by rfl) rfl rfl (h_at HM.out 0 rfl HX.out Hr.out).all (hd_len _ _ _ _ _ _ _ Hr.out) ?_; simp only [Act.put, List.setIfInBounds_toArray, List.set_cons_zero, List.set_cons_succ]) | (refine St.wl_build slHe (by decide) rfl rfl (cs := hd (.slice a n c) G T A Q Z m) (hd_len _ _ _ _ _ _ _ Hr.out) rfl ?_; rw [HX.out]; have HM : Hid _ := HM.out.alloc (.cells X 26) (by simp only [World.size_alloc, hhb]; rfl); simp only [Act.put, List.setIfInBounds_toArray, List.set_cons_zero, List.set_cons_succ]) | (go_at_call 4; refine (much_yes _ _ a n c G T A Q Z m (h_at HM.out 2 rfl HX.out Hr.out) hgo').mono ?_; rintro e w1 ⟨rfl, hw1⟩; rw [hw1]; clear hw1) | (go_at_call 5; refine (dawake _ (HF.out.keep HM.out.keep (fun h => h)) (HK.out.keep HM.out.keep (fun h => h))).mono ?_; rintro e w9 ⟨rfl, k1⟩; have HM : Hid _ := HM.out.calm k1; clear k1))
    go_ret
    exact ⟨rfl, Keep.below HM.out.keep (Nat.le_refl _) (fun _ h => h.elim)⟩
set_option maxRecDepth 100000 in
theorem own : ownKnob Tryd.prog.godebug = none := by kernel_rfl
set_option maxRecDepth 100000 in
theorem laidOut : laidOutB Tryd.prog = true := by kernel_rfl
set_option maxRecDepth 100000 in
theorem contract (H : Type) (enc : TypeId × Value → H) (W : World) (base : Nat) (args : Array Value) (ds gs : List (DataW H)) (before : List MemPlace)
    (hval : ∀ (j : Nat) t v, Tryd.f3.params[j]? = some t → args[j]? = some v → Value.okWide Tryd.prog W .any base t v)
    (hW : DataW.Whole enc Tryd.prog Tryd.f3.params.toList Rows.dagZeroSpec.vars false W args.toList ds gs before) (hL : laidMetH Tryd.prog Rows.dagZeroRow.laid W) :
    Calls Tryd.prog 3 args W fun e W' => ∃ v, e = .returned v ∧ Rows.dagZeroSpec.post enc Tryd.prog Tryd.f3 false true false false W args v W' := by
  have hW' := hW
  have hTab := Lad.sha_of hL
  obtain ⟨p, q, hA0, hV, rfl, hfz, hnd⟩ := hW
  have hA : DataW.TrodAll enc Tryd.prog W 0 (fun _ => true) true Tryd.f3.params.toList args.toList ds p := hA0
  rw [Tryd.params3] at hA hval
  obtain ⟨rfl, rfl⟩ := trodVars_none hV
  obtain ⟨v0, vs0, d0, ds0, p0, q0, hargs, rfl, rfl, h0, r0⟩ := trodAll_cons hA
  obtain ⟨v1, vs1, d1, ds1, p1, q1, rfl, rfl, rfl, h1, r1⟩ := trodAll_cons r0
  obtain ⟨rfl, rfl, rfl⟩ := trodAll_nil r1
  obtain rfl : args = #[v0, v1] := by cases args; simp_all
  obtain ⟨x, rfl, f0, _⟩ := Opn.open_st Tryd.underlying26 rdH (hval 0 _ v0 rfl rfl) h0
  obtain ⟨u, rfl, lu⟩ := Opn.open_id (hval 1 _ v1 rfl rfl) h1
  refine (walk x.2.1 x.2.2.1 x.2.2.2.1 x.2.2.2.2.1 x.2.2.2.2.2.1 x.2.2.2.2.2.2.1 x.1.a x.1.len x.1.cap x.1.els u W hTab f0.1 f0.2.1 f0.2.2.1 lu).mono fun e W' ⟨he, bel⟩ => ?_
  subst he
  exact ⟨_, rfl, Opn.law_post laidOut (by kernel_rfl) rfl Tryd.underlying4 rfl rfl hW' bel⟩
set_option maxRecDepth 100000 in
theorem lifted (os : Os) (started : os.Started) (H : Type) (enc : TypeId × Value → H) :
    ReturnsInHanded {} Tryd.checked os 3 .any (fun w args => (Rows.dagZeroSpec.pre enc Tryd.prog Tryd.f3 [] false w args ∧ laidMetH Tryd.prog Rows.dagZeroRow.laid w) ∧ sizedMet enc Tryd.prog Tryd.f3 (OpenSpec.ofChange Rows.dagZeroSpec) false w args)
      (Rows.dagZeroSpec.post enc Tryd.prog Tryd.f3 false true false false) := by
  refine returnsInHanded_of_change_and (C := Tryd.checked) (X := fun w _ => laidMetH Tryd.prog Rows.dagZeroRow.laid w) (fun _ _ _ hh h => h.of_heap hh) own started (by kernel_rfl) Tryd.func3
    (ChangeSpec.witness_shaped (enc := enc) (C := Tryd.checked) (os := os) (X := fun w _ => laidMetH Tryd.prog Rows.dagZeroRow.laid w) false (World.laidAll Tryd.prog os Rows.dagZeroRow.laid) #[.agg hz0, idv (List.replicate 32 0)] 8 (World.laidAll_os _ _ _)
      (World.shaped_of_ZipB (by kernel_rfl) (by kernel_rfl)) (by kernel_rfl) (by kernel_rfl) (by kernel_rfl)
      (by rw [MakeChecks.laidMetH_plain _ _ _ (by kernel_rfl)]; exact laidMet_laidAll _ (by kernel_rfl) (by kernel_rfl))) ?_
  intro W base args ds gs before hval0 hW _ _ hL _
  exact contract H enc W base args ds gs before hval0 hW hL
theorem over : Rows.dagZeroRow.holds Tryd.pinned (OpenSpec.ofChange Rows.dagZeroSpec) :=
  OpenClaim.holds_of_wide 3 Tryd.f3 rfl rfl rfl rfl rfl rfl rfl ⟨rfl, rfl, rfl, rfl, rfl⟩ rfl rfl rfl rfl rfl (by kernel_rfl) Tryd.func3 (by kernel_rfl)
    (of_decide_eq_true (by kernel_rfl)) (by unfold Func.isWrapper; first | (rw [if_pos (by decide +kernel)]; kernel_rfl) | (rw [if_neg (by decide +kernel)]; exact ⟨rfl, rfl⟩))
    (fun os started H enc _ => lifted os started H enc)
theorem proved : Rows.DagZeroCardSaid :=
  Claim7.holds_tied_plain_at .later [] [.data, .data] true _ false over (fun _ h => by cases h) (by kernel_rfl) (fun _ h => by cases h) dagZero_row_tie rfl ⟨rfl, rfl⟩ (by kernel_rfl) rfl
    (fun f fn hf hfn => by
      obtain rfl : f = 3 := Option.some.inj ((show Tryd.prog.funcNamed "petrel/petrellaw16.DagZero" = some 3 by kernel_rfl).symm.trans hf) |>.symm
      obtain rfl : fn = Tryd.f3 := (Option.some.inj (Tryd.func3.symm.trans hfn)).symm
      exact ⟨by kernel_rfl, fun j t ht => by
        rw [Tryd.params3] at ht
        have hm : t ∈ [26, 24] := by simpa using Array.mem_of_getElem? ht
        have hall : ([26, 24].all fun u => !Tryd.prog.wantsStandIn u) = true := by kernel_rfl
        exact (show Tryd.prog.wantsStandIn t = false by simpa using List.all_eq_true.1 hall t hm)⟩)
    (by kernel_rfl)
end DagZero
end Go.Proofs.YthllhjdaknmlbaaDoor
