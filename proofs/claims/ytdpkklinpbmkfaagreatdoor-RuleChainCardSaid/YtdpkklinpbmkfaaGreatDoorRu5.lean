/-
  petrelref15.Verdict.
-/
import Derived.Test.YtdpkklinpbmkfaaGreatDoorRu4
set_option linter.unusedVariables false
set_option linter.unusedSimpArgs false
namespace Go.Proofs.YtdpkklinpbmkfaaGreatDoor
open Go.RowKit
namespace Ru
open Oct Ids Gn Hd
open Mem (M It blk ids rows)

theorem unk_nil {K : List Hh} {l : List (List UInt8)} (h : (unk K l).length = 0) {y : List UInt8} (hy : y ∈ l) : ∃ x, look K y = some x := by
  have h1 : unk K l = [] := List.eq_nil_of_length_eq_zero h
  cases hl : look K y with
  | some x => exact ⟨x, rfl⟩
  | none =>
    have : y ∈ unk K l := by unfold unk; rw [List.mem_filter]; exact ⟨hy, by rw [hl]; rfl⟩
    rw [h1] at this
    cases this
section
variable (w : World) (h : Hh) (hh : Hok w h) (a : Option Addr) (n c : Nat) (K : List Hh) (hA : St.At 38 he w a n K) (hk : ∀ x ∈ K, Hok w x) (hn : n ≤ 1000000)
include hh hA hk hn
set_option maxRecDepth 100000 in
set_option maxHeartbeats 4000000 in
theorem xverdict_any : Calls Tryz.prog 34 #[.agg (he h).toArray, .slice a n c] w fun e w' => e = .returned (.int .i64 (vrd h K)) ∧ Keep (fun _ => False) w w' := by
  have HS : Hid (∀ w', Keep (fun _ => False) w w' → Calls Tryz.prog 36 #[.agg (he h).toArray, .slice a n c] w' fun e w'' => ∃ v, e = .returned v ∧ New w' w'' v (unk K h.l)) := fun w' k =>
    xunknown_any w' h (hh.calm k) a n c K (hA.calm k) (fun x hx => (hk x hx).calm k) hn
  have HC : Hid (∀ w', Keep (fun _ => False) w w' → Calls Tryz.prog 72 #[.agg (he h).toArray] w' fun e w'' => e = .returned (.int .i64 (hck h)) ∧ Keep (fun _ => False) w' w'') := fun w' k => hrcheck w' h (hh.calm k)
  have HM : Hid (M (fun _ => False) w _ [blk w.heap.size (.cells (he h).toArray 30)]) := (M.start _ w).alloc (.cells (he h).toArray 30) rfl
  have Hle : Hid ((kn K h.l).length ≤ 1000000) := Nat.le_trans (kn_le _ _) (by rw [hh.1.len]; exact hh.2.1)
  have HV : Hid (vrd h K = if hck h = 0 then (if (unk K h.l).length = 0 then (if hgt (kn K h.l) = h.G then 0 else 12) else 11) else hck h) := (rfl : _ = _)
  have HP : Hid (At w h.a h.n h.l) := hh.1
  have Hn : Hid (h.n ≤ 1000000) := hh.2.1
  have HA : Hid (St.At 38 he w a n K) := hA
  have HX : Hid (∀ w' y, Keep (fun _ => False) w w' → y.length = 32 → Calls Tryz.prog 74 #[idv y, .slice a n c] w' fun e w'' => e = .returned (.int .i64 (St.idx (hits y) K)) ∧ Keep (fun _ => False) w' w'') := fun w' y k hy =>
    xfind_any w' y hy a n c K (hA.calm k) (fun x hx => (hk x hx).calm k) hn
  generalize hck h = v at HC HV
  generalize vrd h K = r at HV ⊢
  clear hh hA hk
  by_cases h0 : v = 0
  case neg =>
    have h1 : (v != 0) = true := by simpa using h0
    have HR : Hid (r = v) := by rw [HV.out, if_neg h0]; exact rfl
    clear h0 HV
    go_enter Tryz.func34, Tryz.ntmps34
    go_wp2_with (first | ((with_reducible refine at_load 30 ?_); refine St.wl_load tyH (by rfl) rfl rfl (HM.out.range 0 rfl) (he_len h) ?_; simp only [Act.put, List.setIfInBounds_toArray, List.set_cons_zero, List.set_cons_succ]) | (go_at_call 72; refine (HC.out _ HM.out.keep).mono ?_; rintro e w1 ⟨rfl, k1⟩; have HM : Hid _ := HM.out.calm k1; clear k1))
    go_ret
    exact ⟨by rw [HR.out]; try rfl, HM.out.keep⟩
  subst h0
  rw [if_pos rfl] at HV
  obtain ⟨q, hq⟩ : ∃ q, (unk K h.l).length = q := ⟨_, rfl⟩
  rw [hq] at HV
  have HQ : Hid ((unk K h.l).length = q) := hq
  clear hq
  by_cases h0 : q = 0
  case neg =>
    have h1 : (0 : Int) < (q : Int) := by omega
    have HR : Hid (r = 11) := by rw [HV.out, if_neg h0]; exact rfl
    clear h0 HV
    go_enter Tryz.func34, Tryz.ntmps34
    go_wp2_with (first | ((with_reducible refine at_load 30 ?_); refine St.wl_load tyH (by rfl) rfl rfl (HM.out.range 0 rfl) (he_len h) ?_; simp only [Act.put, List.setIfInBounds_toArray, List.set_cons_zero, List.set_cons_succ]) | (go_at_call 72; refine (HC.out _ HM.out.keep).mono ?_; rintro e w1 ⟨rfl, k1⟩; have HM : Hid _ := HM.out.calm k1; clear k1) | (go_at_call 36; refine (HS.out _ HM.out.keep).mono ?_; rintro e w2 ⟨v2, rfl, n2⟩; obtain ⟨a3, c3, e3, at3, _⟩ := n2.1.at; rw [HQ.out] at e3; subst e3; have HM : Hid _ := HM.out.calm n2.2.1; clear n2 at3))
    go_ret
    exact ⟨by rw [HR.out]; try rfl, HM.out.keep⟩
  subst h0
  rw [if_pos rfl] at HV
  have Hcell : Hid ((he h).toArray[0]? = some (.slice h.a h.n h.c)) := (rfl : _ = _)
  have Hcell1 : Hid ((he h).toArray[1]? = some (.int .i64 h.G)) := (rfl : _ = _)
  go_enter Tryz.func34, Tryz.ntmps34
  go_wp2_with (first | ((with_reducible refine at_load 30 ?_); refine St.wl_load tyH (by rfl) rfl rfl (HM.out.range 0 rfl) (he_len h) ?_; simp only [Act.put, List.setIfInBounds_toArray, List.set_cons_zero, List.set_cons_succ]) | (go_at_call 72; refine (HC.out _ HM.out.keep).mono ?_; rintro e w1 ⟨rfl, k1⟩; have HM : Hid _ := HM.out.calm k1; clear k1) | (go_at_call 36; refine (HS.out _ HM.out.keep).mono ?_; rintro e w2 ⟨v2, rfl, n2⟩; obtain ⟨a3, c3, e3, at3, _⟩ := n2.1.at; rw [HQ.out] at e3; subst e3; have HM : Hid _ := HM.out.calm n2.2.1; clear n2 at3))
  have HM : Hid _ := HM.out.nilR 30 38 he
  go_loopw [6, 7] (fun s6 i wr => ∃ (k : Nat) (v1 : Value), k ≤ h.n ∧ i = .int .i64 k ∧ s6 = v1 ∧ M (fun _ => False) w wr [blk w.heap.size (.cells (he h).toArray 30), rows 30 38 he v1 (kn K (h.l.take k))]) (fun _ i _ => h.n - (intOf i).toNat)
  case atStart => exact ⟨0, _, Nat.zero_le _, rfl, rfl, HM.out⟩
  case round =>
    obtain ⟨k, v1, hkn, rfl, hv1, hM⟩ := hrel
    replace hv1 := hv1.symm
    subst hv1
    have HM : Hid _ := hM
    have g0 := HM.out.cell 0 rfl 0 Hcell.out
    clear hM
    have hpn : h.n ≤ 1000000 := Hn.out
    by_cases hlt : k < h.n
    · obtain ⟨y, hy⟩ : ∃ y, h.l[k]? = some y := ⟨_, List.getElem?_eq_getElem (by rw [HP.out.len]; exact hlt)⟩
      obtain ⟨x, hlk⟩ := unk_nil HQ.out (List.mem_of_getElem? hy)
      obtain ⟨i, hi, hKi⟩ := (idx_look K y).2 x hlk
      have hin : i < n := by have := (List.getElem?_eq_some_iff.1 hKi).1; rw [HA.out.len] at this; exact this
      obtain ⟨b1, o1, e1, hb1, hr1⟩ : ∃ b off, h.a = some ⟨b, off, none⟩ ∧ b < w.heap.size ∧ ∀ i x, h.l[i]? = some x → w.rangeAt b (off + i * 32) (x.map bv) := by rcases HP.out.lay with e | e; omega; exact e
      obtain ⟨b2, o2, rfl, hb2, hr2⟩ : ∃ b off, a = some ⟨b, off, none⟩ ∧ b < w.heap.size ∧ ∀ i x, K[i]? = some x → w.rangeAt b (off + i * 38) (he x) := by rcases HA.out.lay with e | e; omega; exact e
      have R0 : Hid (w.rangeAt b1 (o1 + k * 32) (y.map bv)) := hr1 k y hy
      have R2 : Hid (w.rangeAt b2 (o2 + i * 38) (he x)) := hr2 i x hKi
      have HB1 : Hid (b1 < w.heap.size) := hb1
      have HB2 : Hid (b2 < w.heap.size) := hb2
      have Ly : Hid (y.length = 32) := HP.out.size y (List.mem_of_getElem? hy)
      have Hl1 : Hid ((kn K (h.l.take k)).length ≤ 1000000) := Nat.le_trans (kn_le _ _) (by rw [List.length_take]; have := Hn.out; omega)
      have E1 : Hid (kn K (h.l.take (k + 1)) = kn K (h.l.take k) ++ [x]) := by show _ = _; rw [take_snoc hy, kn_snoc, hlk]; rfl
      have HC1 : Hid (∀ w', Keep (fun _ => False) w w' → Calls Tryz.prog 74 #[idv y, .slice (some ⟨b2, o2, none⟩) n c] w' fun e w'' => e = .returned (.int .i64 i) ∧ Keep (fun _ => False) w' w'') := fun w' k => by rw [← hi]; exact HX.out w' y k Ly.out
      rw [e1] at g0
      have Hcell : Hid ((he h).toArray[0]? = some (.slice (some ⟨b1, o1, none⟩) h.n h.c)) := by rw [← e1]; exact Hcell.out
      clear hr1 hr2 hy hb1 hb2 hi hKi hlk e1
      go_wp2_with (first | ((with_reducible refine at_load 28 ?_); refine Ids.wl_load rfl rfl rfl Ly.out (HM.out.keep.range HB1.out (fun h => h) R0.out) ?_; simp only [Act.put, List.setIfInBounds_toArray, List.set_cons_zero, List.set_cons_succ]) | (go_at_call 74; refine (HC1.out _ HM.out.keep).mono ?_; rintro e w2 ⟨rfl, k2⟩; have HM : Hid _ := HM.out.calm k2; have g0 := HM.out.cell 0 rfl 0 Hcell.out; clear k2) | ((with_reducible refine at_load 30 ?_); refine St.wl_load tyH (by rfl) rfl rfl (HM.out.keep.range HB2.out (fun h => h) R2.out) (he_len x) ?_; simp only [Act.put, List.setIfInBounds_toArray, List.set_cons_zero, List.set_cons_succ]) | (refine St.wl_build slHe (by decide) rfl rfl (he_len x) rfl ?_; have HM : Hid _ := HM.out.alloc (.cells (he x).toArray 30) (by first | rfl | simp only [World.size_alloc]); simp only [Act.put, List.setIfInBounds_toArray, List.set_cons_zero, List.set_cons_succ]) | (refine St.wl_app1 slHe (by decide) rfl rfl rfl (HM.out.get 1 rfl) rfl (he_len x) (he_one x) (heap_alloc_new _ _) Hl1.out ?_; intro v3 w3 h1 k1 h3; have HM : Hid _ := HM.out.appR 1 rfl h1 k1 h3; clear h1 k1 h3; simp only [Act.put, List.setIfInBounds_toArray, List.set_cons_zero, List.set_cons_succ]))
      go_roundw
      case rel => exact ⟨k + 1, _, by omega, rfl, rfl, by rw [E1.out]; exact HM.out.take 2⟩
      case measure => simp [intOf]; omega
    · obtain rfl : k = h.n := by omega
      have e : h.l.take h.n = h.l := List.take_of_length_le (by rw [HP.out.len]; exact Nat.le_refl _)
      rw [e] at HM
      obtain ⟨a2, c2, e2, _⟩ := (show St.Own 30 38 he wr _ (kn K h.l) from HM.out.get 1 rfl).any
      subst e2
      go_wp2
      have HM : Hid _ := HM.out.drew
      refine Txt.wp_region_text (fun w' => w'.cell? ⟨w.heap.size, 1, none⟩ = some (.int .i64 h.G)) [0, 4, 0, 2, 0] (by kernel_rfl) (by kernel_rfl) (HM.out.cell 0 rfl 1 Hcell1.out) ?_
      (repeat (first | (refine Txt.tl_pure (v := ?_) (by rfl) ?_ ?_; rotate_left; (focus (intro _; go_simp; try with_reducible rfl)); simp only [Act.put, List.setIfInBounds_toArray, List.set_cons_zero, List.set_cons_succ]) | (refine Txt.tl_load (v := ?_) (by rfl) (by rfl) (by rfl) (by kernel_rfl) ?_ ?_; rotate_left; (focus assumption); simp only [Act.put, List.setIfInBounds_toArray, List.set_cons_zero, List.set_cons_succ]) | (refine Txt.tl_loadS (v := ?_) (by rfl) (by rfl) (by rfl) (by kernel_rfl) ?_ ?_; rotate_left; (focus (exact fun _ h => h)); simp only [Act.put, List.setIfInBounds_toArray, List.set_cons_zero, List.set_cons_succ])))
      refine Txt.tl_call Tryz.func38 (by kernel_rfl) (by kernel_rfl) (by rfl) (by rfl) (by rfl) (vs := #[.slice a2 (kn K h.l).length c2]) (xheight_any _ a2 _ c2 _ (show St.Own _ _ _ _ _ _ from HM.out.get 1 rfl).slice.2 Hle.out) ?_
      rintro e w5 ⟨rfl, k5⟩
      replace k5 := k5.symm
      subst k5
      have cx := HM.out.cell 0 rfl 1 Hcell1.out
      refine ⟨_, rfl, cx, ?_⟩
      simp only [Act.put, List.setIfInBounds_toArray, List.set_cons_zero, List.set_cons_succ]
      (repeat (first | (refine Txt.tl_pure (v := ?_) (by rfl) ?_ ?_; rotate_left; (focus (intro _; go_simp; try with_reducible rfl)); simp only [Act.put, List.setIfInBounds_toArray, List.set_cons_zero, List.set_cons_succ]) | (refine Txt.tl_load (v := ?_) (by rfl) (by rfl) (by rfl) (by kernel_rfl) ?_ ?_; rotate_left; (focus assumption); simp only [Act.put, List.setIfInBounds_toArray, List.set_cons_zero, List.set_cons_succ]) | (refine Txt.tl_loadS (v := ?_) (by rfl) (by rfl) (by rfl) (by kernel_rfl) ?_ ?_; rotate_left; (focus (exact fun _ h => h)); simp only [Act.put, List.setIfInBounds_toArray, List.set_cons_zero, List.set_cons_succ])))
      refine Txt.tl_loadS (v := .int .i64 h.G) (ty := 3) (by rfl) (by rfl) (by rfl) (by kernel_rfl) (fun _ h => h) ?_
      simp only [Act.put, List.setIfInBounds_toArray, List.set_cons_zero, List.set_cons_succ]
      (repeat (first | (refine Txt.tl_pure (v := ?_) (by rfl) ?_ ?_; rotate_left; (focus (intro _; go_simp; try with_reducible rfl)); simp only [Act.put, List.setIfInBounds_toArray, List.set_cons_zero, List.set_cons_succ]) | (refine Txt.tl_load (v := ?_) (by rfl) (by rfl) (by rfl) (by kernel_rfl) ?_ ?_; rotate_left; (focus assumption); simp only [Act.put, List.setIfInBounds_toArray, List.set_cons_zero, List.set_cons_succ]) | (refine Txt.tl_loadS (v := ?_) (by rfl) (by rfl) (by rfl) (by kernel_rfl) ?_ ?_; rotate_left; (focus (exact fun _ h => h)); simp only [Act.put, List.setIfInBounds_toArray, List.set_cons_zero, List.set_cons_succ])))
      refine Txt.tl_nil ?_
      generalize hgt (kn K h.l) = t at HV ⊢
      by_cases h0 : t = h.G
      · have h1 : (t != h.G) = false := by simpa using h0
        have HR : Hid (r = 0) := by rw [HV.out, if_pos h0]; exact rfl
        clear h0 HV
        go_wp2
        go_ret
        exact ⟨by rw [HR.out]; try rfl, HM.out.keep⟩
      · have h1 : (t != h.G) = true := by simpa using h0
        have HR : Hid (r = 12) := by rw [HV.out, if_neg h0]; exact rfl
        clear h0 HV
        go_wp2
        go_ret
        exact ⟨by rw [HR.out]; try rfl, HM.out.keep⟩
end
end Ru
end Go.Proofs.YtdpkklinpbmkfaaGreatDoor
