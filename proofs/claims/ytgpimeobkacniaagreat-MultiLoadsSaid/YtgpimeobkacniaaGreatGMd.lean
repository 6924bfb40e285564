/-
  Chapter 24: Put. Chapter 24, plain: what is read; why it is none; put and read. multi.id, multi.read. multi.Load. Chapter 24: what a map of writings holds behind some calls; put and loaded.
-/
import Derived.Test.YtgpimeobkacniaaGreatGMb
import Derived.Test.YtgpimeobkacniaaGreatSqI
import Derived.Test.YtgpimeobkacniaaGreatGId
import Derived.Test.YtgpimeobkacniaaGreatGMc
set_option linter.unusedVariables false
set_option linter.unusedSimpArgs false

namespace Go.Proofs.YtgpimeobkacniaaGreat
open Go.RowKit
namespace Mu
open Oct Ids Mp
open Mem (M It blk ids rows)
open OctRd (be_len)
open Sq (dG addG put_dG look_G zeroB lnv map_nil okI pack own_idat wl_buildL at_load at_alloc at_store fill_cons ex_buildL it_key tyI two flat_takeW)
/-- A writing's bytes. -/
def wrB (x : Wr) : List UInt8 := x.u ++ be 1 x.k.size ++ x.k.data.toList ++ be 1 x.v.size ++ x.v.data.toList
def putW (X : List Wr) (G : List Wd) : List UInt8 := be 4 X.length ++ X.flatMap wrB ++ be 4 G.length ++ G.flatten
def Small (L : List Wr) : Prop := ∀ x ∈ L, x.k.size ≤ 16 ∧ x.v.size ≤ 16
theorem putW_take {X : List Wr} {k : Nat} {d : Wr} (hd : X[k]? = some d) : (X.take (k + 1)).flatMap wrB = (X.take k).flatMap wrB ++ wrB d := by
  rw [List.take_add_one, hd, List.flatMap_append]
  simp
theorem wrB_len : ∀ (X : List Wr), Small X → (X.flatMap wrB).length ≤ 66 * X.length
  | [], _ => Nat.zero_le _
  | d :: X, h => by
    have h1 := wrB_len X (fun e he => h e (List.mem_cons_of_mem _ he))
    have h2 := h d List.mem_cons_self
    have h3 : (wrB d).length = 34 + d.k.size + d.v.size := by
      unfold wrB
      simp only [List.length_append, be_len, d.hu]
      have : d.v.data.toList.length = d.v.size := rfl
      have : d.k.data.toList.length = d.k.size := rfl
      omega
    rw [List.flatMap_cons, List.length_append, List.length_cons, h3]
    omega
theorem MTo.ofI {F : Nat → Prop} {w0 w w' : World} {b bl bo : Nat} {L : List Wr} {O : List Wd} {it : List It} (h : M (mfoot b bl bo) w w' it) (i : Nat) (hi : it[i]? = some (muI b bl bo L O)) : MTo w w' b bl bo L O := ⟨h.get i hi, h.keep⟩
/-- What Put comes to. -/
structure PutPost (w : World) (b bl bo : Nat) (L : List Wr) (O l : List Wd) (e : Ending) (w' : World) : Prop where
  ex : ∃ X, e = .returned (.string ⟨(putW X l).toArray⟩) ∧ X.Pairwise ltW ∧ (∀ x, x ∈ X ↔ x ∈ L) ∧ X.length = L.length
  mu : MTo w w' b bl bo L O
set_option maxRecDepth 100000 in
set_option maxHeartbeats 16000000 in
theorem mput_any (w : World) (b bl bo : Nat) (L : List Wr) (O : List Wd) (h : MuAt w b bl bo L O) (hn : L.Nodup) (hL : L.length ≤ 1000) (hS : Small L) (hO : O.length ≤ 1000) (G' : List Wd) (hl : ∀ K : List Wd, (∀ u, u ∈ K ↔ u ∈ O) → IdL.setL K = G') :
    Calls Tryz.prog 7 #[.pointer (some ⟨b, 0, none⟩)] w (PutPost w b bl bo L O G') := by
  have HM : Hid (M (mfoot b bl bo) w w [muI b bl bo L O]) := startMu h
  have HSo : Hid (∀ w1, MuAt w1 b bl bo L O → Calls Tryz.prog 28 #[.pointer (some ⟨b, 0, none⟩)] w1 (SrtPost w1 b bl bo L O)) := fun w1 h1 => sorted_any w1 b bl bo L O h1 hn hL
  have HGo : Hid (∀ w1, MuAt w1 b bl bo L O → Calls Tryz.prog 29 #[.pointer (some ⟨b, 0, none⟩)] w1 (KeyPost w1 b bl bo L O G')) := fun w1 h1 => gone_any w1 b bl bo L O h1 hO G' hl
  have HLl : Hid (L.length ≤ 1000) := hL
  have HSm : Hid (Small L) := hS
  obtain ⟨g, hgl⟩ : ∃ g, G'.length = g := ⟨_, rfl⟩
  have Hgl : Hid (G'.length = g) := hgl
  have hg1 : g ≤ 1000 := by
    rw [← hgl, ← hl O (fun _ => Iff.rfl)]
    exact Nat.le_trans (nodup_len (IdL.srt_nodup (IdL.setL_srt O)) (fun y hy => (IdL.mem_setL O y).1 hy)) hO
  clear h hn hL hS hO hl hgl
  go_enter Tryz.func7, Tryz.ntmps7
  go_wp2_with (first | (go_at_call 27; refine (mnone _ b bl bo L O (HM.out.get 0 rfl)).mono ?_; rintro e w1 ⟨rfl, h1⟩; replace h1 := h1.symm; subst h1) | (go_at_call 28; refine (HSo.out _ (HM.out.get 0 rfl)).mono ?_; rintro e w2 ⟨v2, X, rfl, m2, r2, mm2, l2⟩; have HM : Hid (M (mfoot b bl bo) w w2 [muI b bl bo L O, rW v2 X]) := two HM.out 0 rfl m2; have HXr : Hid (X.Pairwise ltW) := r2; have HXm : Hid (∀ x, x ∈ X ↔ x ∈ L) := mm2; have HXl : Hid (X.length = L.length) := l2; clear m2 r2 mm2 l2; obtain ⟨la, lc, e2, _⟩ := (show OwnW w2 v2 X from HM.out.get 1 rfl).any; subst e2; obtain ⟨q, hq⟩ : ∃ q, X.length = q := ⟨_, rfl⟩; have Hq : Hid (X.length = q) := hq; rw [hq] at HM ⊢; clear hq) | (go_at_call 29; refine (HGo.out _ (HM.out.get 0 rfl)).mono ?_; rintro e w3 ⟨v3, rfl, m3⟩; have HM : Hid (M (mfoot b bl bo) w w3 [muI b bl bo L O, rW (.slice la q lc) X, ids v3 G']) := two HM.out 0 rfl m3; clear m3; obtain ⟨ga, gc, e3, hat3⟩ : ∃ a c, v3 = .slice a g c ∧ At w3 a g G' := (by obtain ⟨a, c, e, h1, _⟩ := (show Ids.Own w3 v3 G' from HM.out.get 2 rfl).at; rw [Hgl.out] at e h1; exact ⟨a, c, e, h1⟩); subst e3; clear hat3; obtain ⟨bw, hbw⟩ : ∃ b, w3.heap.size = b := ⟨_, rfl⟩; have Hbw : Hid (w3.heap.size = bw) := hbw; clear hbw; have hq1 : q ≤ 1000 := (by have := HLl.out; have := Hq.out; have := HXl.out; omega)) | (go_at_call 30; refine (M.new HM.out Hbw.out).mono ?_; rintro e w4 ⟨rfl, h4⟩; have HM : Hid _ := h4; clear h4) | (go_at_call 31; refine (M.wnum HM.out 3 rfl q 4 (by omega) (by omega) (by omega) (by simp)).mono ?_; rintro e w5 ⟨rfl, sv5, h5⟩; have HM : Hid _ := h5; clear h5))
  have HXs : Hid (Small X) := fun x hx => HSm.out x ((HXm.out x).1 hx)
  go_loopw [24] (fun s24 wr => ∃ (k : Nat) (sv : Value), k ≤ q ∧ s24 = .int .i64 k ∧ M (mfoot b bl bo) w wr [muI b bl bo L O, rW (.slice la q lc) X, ids (.slice ga g gc) G', Mem.wr bw (be 4 q ++ (X.take k).flatMap wrB) sv]) (fun s24 _ => q - (intOf s24).toNat)
  case atStart => exact ⟨0, sv5, Nat.zero_le _, by go_num, by have := HM.out; simpa using this⟩
  case round =>
    clear HM
    obtain ⟨k, sv, hk, rfl, hM⟩ := hrel
    have HM : Hid (M (mfoot b bl bo) w wr [muI b bl bo L O, rW (.slice la q lc) X, ids (.slice ga g gc) G', Mem.wr bw (be 4 q ++ (X.take k).flatMap wrB) sv]) := hM
    clear hM
    by_cases hlt : k < q
    · obtain ⟨x, hd⟩ : ∃ d, X[k]? = some d := ⟨_, List.getElem?_eq_getElem (by rw [Hq.out]; exact hlt)⟩
      obtain ⟨g0, o0, e0, _, hr0⟩ := (St.Own.slice (show OwnW wr (.slice la q lc) X from HM.out.get 1 rfl)).2.lay.resolve_left (by have := Hq.out; omega)
      subst e0
      have R1 : Hid (wr.rangeAt g0 (o0 + k * 34) (we x)) := hr0 k x hd
      have HE : Hid ((X.take (k + 1)).flatMap wrB = (X.take k).flatMap wrB ++ wrB x) := putW_take hd
      obtain ⟨hk16, hv16⟩ := HXs.out x (List.mem_of_getElem? hd)
      have HB : Hid ((be 4 q ++ (X.take k).flatMap wrB).length ≤ 100000) := by
        show _ ≤ _
        have h1 := wrB_len (X.take k) (fun e he => HXs.out e (List.mem_of_mem_take he))
        have h2 := List.length_take_le k X
        rw [List.length_append, be_len]
        omega
      have HKl : Hid (x.k.data.toList.length = x.k.size) := rfl
      have HVl : Hid (x.v.data.toList.length = x.v.size) := rfl
      clear hr0 hd
      obtain ⟨bs, hbs⟩ : ∃ bs, be 4 q ++ (X.take k).flatMap wrB = bs := ⟨_, rfl⟩
      have HBs : Hid (be 4 q ++ (X.take k).flatMap wrB = bs) := hbs
      rw [hbs] at HM HB
      clear hbs
      go_wp2_with (first | ((with_reducible refine at_load 54 ?_); refine St.wl_load tyW rfl rfl rfl R1.out (we_len x) ?_; simp only [Act.put, List.setIfInBounds_toArray, List.set_cons_zero, List.set_cons_succ]) | ((with_reducible refine at_alloc 54 ?_); refine St.wl_alloc tyW rfl rfl (by (try simp only [World.size_alloc]); rfl) ?_; simp only [Act.put, List.setIfInBounds_toArray, List.set_cons_zero, List.set_cons_succ]) | ((with_reducible refine at_store 54 ?_); refine St.wl_storeN (W := wr) tyW rfl rfl rfl rfl rfl (by (try simp only [World.size_alloc])) (show _ = Value.agg (we x).toArray from rfl) (we_sz x) rfl (encW.all x) ?_; have HM : Hid _ := HM.out.alloc (.cells (we x).toArray 54) rfl))
      obtain ⟨ub, hub⟩ : ∃ n, wr.heap.size = n := ⟨_, rfl⟩
      rw [hub] at HM ⊢
      clear hub
      refine Txt.wp_region_text (fun w' => w'.rangeAt ub 0 (we x)) [0, 0, 0, 1, 4, 0, 2, 0, 4, 0, 2, 4, 0, 2, 0, 4, 0, 2, 4] (by kernel_rfl) (by kernel_rfl) (HM.out.drew.range 4 rfl) ?_
      have HM : Hid _ := HM.out.drew
      (repeat (first | (refine Txt.tl_pure (v := ?_) (by rfl) ?_ ?_; rotate_left; (focus (intro _; go_simp; try with_reducible rfl)); simp only [Act.put, List.setIfInBounds_toArray, List.set_cons_zero, List.set_cons_succ]) | (refine Txt.tl_convR (by rfl) (by rfl) (by rfl) (v := .string ⟨x.u.toArray⟩) (fun w2 h => conv_id w2 ub 0 x.u x.hu _ (rng_wu (h.range (HM.out.range 4 rfl)))) ?_; simp only [Act.put, List.setIfInBounds_toArray, List.set_cons_zero, List.set_cons_succ]) | (refine Txt.tl_convQ (by rfl) (by rfl) (by rfl) (v := .string ⟨x.u.toArray⟩) (fun w2 h => conv_id w2 ub 0 x.u x.hu _ (rng_wu h)) ?_; simp only [Act.put, List.setIfInBounds_toArray, List.set_cons_zero, List.set_cons_succ]) | (refine Txt.tl_loadS (v := .string x.k) (ty := 9) (by rfl) (by rfl) (by rfl) (by kernel_rfl) (fun _ h => rng_wk h) ?_; simp only [Act.put, List.setIfInBounds_toArray, List.set_cons_zero, List.set_cons_succ]) | (refine Txt.tl_loadS (v := .string x.v) (ty := 9) (by rfl) (by rfl) (by rfl) (by kernel_rfl) (fun _ h => rng_wv h) ?_; simp only [Act.put, List.setIfInBounds_toArray, List.set_cons_zero, List.set_cons_succ])))
      refine Txt.tl_call Tryz.func32 (by kernel_rfl) (by kernel_rfl) (by rfl) (by rfl) (by rfl) (M.wraw HM.out 3 rfl ⟨x.u.toArray⟩ (by (have q1 := HB.out; (try simp only [List.length_append, be_len, Byt.arr_size, List.toList_toArray, x.hu, HKl.out, HVl.out]); omega))) ?_
      rintro e w6 ⟨rfl, sv6, h1⟩
      have HM : Hid _ := h1
      clear h1
      refine ⟨_, rfl, HM.out.range 4 rfl, ?_⟩
      simp only [Act.put, List.setIfInBounds_toArray, List.set_cons_zero, List.set_cons_succ]
      (repeat (first | (refine Txt.tl_pure (v := ?_) (by rfl) ?_ ?_; rotate_left; (focus (intro _; go_simp; try with_reducible rfl)); simp only [Act.put, List.setIfInBounds_toArray, List.set_cons_zero, List.set_cons_succ]) | (refine Txt.tl_convR (by rfl) (by rfl) (by rfl) (v := .string ⟨x.u.toArray⟩) (fun w2 h => conv_id w2 ub 0 x.u x.hu _ (rng_wu (h.range (HM.out.range 4 rfl)))) ?_; simp only [Act.put, List.setIfInBounds_toArray, List.set_cons_zero, List.set_cons_succ]) | (refine Txt.tl_convQ (by rfl) (by rfl) (by rfl) (v := .string ⟨x.u.toArray⟩) (fun w2 h => conv_id w2 ub 0 x.u x.hu _ (rng_wu h)) ?_; simp only [Act.put, List.setIfInBounds_toArray, List.set_cons_zero, List.set_cons_succ]) | (refine Txt.tl_loadS (v := .string x.k) (ty := 9) (by rfl) (by rfl) (by rfl) (by kernel_rfl) (fun _ h => rng_wk h) ?_; simp only [Act.put, List.setIfInBounds_toArray, List.set_cons_zero, List.set_cons_succ]) | (refine Txt.tl_loadS (v := .string x.v) (ty := 9) (by rfl) (by rfl) (by rfl) (by kernel_rfl) (fun _ h => rng_wv h) ?_; simp only [Act.put, List.setIfInBounds_toArray, List.set_cons_zero, List.set_cons_succ])))
      refine Txt.tl_call Tryz.func31 (by kernel_rfl) (by kernel_rfl) (by rfl) (by rfl) (by rfl) (M.wnum HM.out 3 rfl x.k.size 1 (by omega) (by omega) (by omega) (by (have q1 := HB.out; (try simp only [List.length_append, be_len, Byt.arr_size, List.toList_toArray, x.hu, HKl.out, HVl.out]); omega))) ?_
      rintro e w6 ⟨rfl, sv6, h1⟩
      have HM : Hid _ := h1
      clear h1
      refine ⟨_, rfl, HM.out.range 4 rfl, ?_⟩
      simp only [Act.put, List.setIfInBounds_toArray, List.set_cons_zero, List.set_cons_succ]
      (repeat (first | (refine Txt.tl_pure (v := ?_) (by rfl) ?_ ?_; rotate_left; (focus (intro _; go_simp; try with_reducible rfl)); simp only [Act.put, List.setIfInBounds_toArray, List.set_cons_zero, List.set_cons_succ]) | (refine Txt.tl_convR (by rfl) (by rfl) (by rfl) (v := .string ⟨x.u.toArray⟩) (fun w2 h => conv_id w2 ub 0 x.u x.hu _ (rng_wu (h.range (HM.out.range 4 rfl)))) ?_; simp only [Act.put, List.setIfInBounds_toArray, List.set_cons_zero, List.set_cons_succ]) | (refine Txt.tl_convQ (by rfl) (by rfl) (by rfl) (v := .string ⟨x.u.toArray⟩) (fun w2 h => conv_id w2 ub 0 x.u x.hu _ (rng_wu h)) ?_; simp only [Act.put, List.setIfInBounds_toArray, List.set_cons_zero, List.set_cons_succ]) | (refine Txt.tl_loadS (v := .string x.k) (ty := 9) (by rfl) (by rfl) (by rfl) (by kernel_rfl) (fun _ h => rng_wk h) ?_; simp only [Act.put, List.setIfInBounds_toArray, List.set_cons_zero, List.set_cons_succ]) | (refine Txt.tl_loadS (v := .string x.v) (ty := 9) (by rfl) (by rfl) (by rfl) (by kernel_rfl) (fun _ h => rng_wv h) ?_; simp only [Act.put, List.setIfInBounds_toArray, List.set_cons_zero, List.set_cons_succ])))
      refine Txt.tl_call Tryz.func32 (by kernel_rfl) (by kernel_rfl) (by rfl) (by rfl) (by rfl) (M.wraw HM.out 3 rfl x.k (by (have q1 := HB.out; (try simp only [List.length_append, be_len, Byt.arr_size, List.toList_toArray, x.hu, HKl.out, HVl.out]); omega))) ?_
      rintro e w6 ⟨rfl, sv6, h1⟩
      have HM : Hid _ := h1
      clear h1
      refine ⟨_, rfl, HM.out.range 4 rfl, ?_⟩
      simp only [Act.put, List.setIfInBounds_toArray, List.set_cons_zero, List.set_cons_succ]
      (repeat (first | (refine Txt.tl_pure (v := ?_) (by rfl) ?_ ?_; rotate_left; (focus (intro _; go_simp; try with_reducible rfl)); simp only [Act.put, List.setIfInBounds_toArray, List.set_cons_zero, List.set_cons_succ]) | (refine Txt.tl_convR (by rfl) (by rfl) (by rfl) (v := .string ⟨x.u.toArray⟩) (fun w2 h => conv_id w2 ub 0 x.u x.hu _ (rng_wu (h.range (HM.out.range 4 rfl)))) ?_; simp only [Act.put, List.setIfInBounds_toArray, List.set_cons_zero, List.set_cons_succ]) | (refine Txt.tl_convQ (by rfl) (by rfl) (by rfl) (v := .string ⟨x.u.toArray⟩) (fun w2 h => conv_id w2 ub 0 x.u x.hu _ (rng_wu h)) ?_; simp only [Act.put, List.setIfInBounds_toArray, List.set_cons_zero, List.set_cons_succ]) | (refine Txt.tl_loadS (v := .string x.k) (ty := 9) (by rfl) (by rfl) (by rfl) (by kernel_rfl) (fun _ h => rng_wk h) ?_; simp only [Act.put, List.setIfInBounds_toArray, List.set_cons_zero, List.set_cons_succ]) | (refine Txt.tl_loadS (v := .string x.v) (ty := 9) (by rfl) (by rfl) (by rfl) (by kernel_rfl) (fun _ h => rng_wv h) ?_; simp only [Act.put, List.setIfInBounds_toArray, List.set_cons_zero, List.set_cons_succ])))
      refine Txt.tl_call Tryz.func31 (by kernel_rfl) (by kernel_rfl) (by rfl) (by rfl) (by rfl) (M.wnum HM.out 3 rfl x.v.size 1 (by omega) (by omega) (by omega) (by (have q1 := HB.out; (try simp only [List.length_append, be_len, Byt.arr_size, List.toList_toArray, x.hu, HKl.out, HVl.out]); omega))) ?_
      rintro e w6 ⟨rfl, sv6, h1⟩
      have HM : Hid _ := h1
      clear h1
      refine ⟨_, rfl, HM.out.range 4 rfl, ?_⟩
      simp only [Act.put, List.setIfInBounds_toArray, List.set_cons_zero, List.set_cons_succ]
      (repeat (first | (refine Txt.tl_pure (v := ?_) (by rfl) ?_ ?_; rotate_left; (focus (intro _; go_simp; try with_reducible rfl)); simp only [Act.put, List.setIfInBounds_toArray, List.set_cons_zero, List.set_cons_succ]) | (refine Txt.tl_convR (by rfl) (by rfl) (by rfl) (v := .string ⟨x.u.toArray⟩) (fun w2 h => conv_id w2 ub 0 x.u x.hu _ (rng_wu (h.range (HM.out.range 4 rfl)))) ?_; simp only [Act.put, List.setIfInBounds_toArray, List.set_cons_zero, List.set_cons_succ]) | (refine Txt.tl_convQ (by rfl) (by rfl) (by rfl) (v := .string ⟨x.u.toArray⟩) (fun w2 h => conv_id w2 ub 0 x.u x.hu _ (rng_wu h)) ?_; simp only [Act.put, List.setIfInBounds_toArray, List.set_cons_zero, List.set_cons_succ]) | (refine Txt.tl_loadS (v := .string x.k) (ty := 9) (by rfl) (by rfl) (by rfl) (by kernel_rfl) (fun _ h => rng_wk h) ?_; simp only [Act.put, List.setIfInBounds_toArray, List.set_cons_zero, List.set_cons_succ]) | (refine Txt.tl_loadS (v := .string x.v) (ty := 9) (by rfl) (by rfl) (by rfl) (by kernel_rfl) (fun _ h => rng_wv h) ?_; simp only [Act.put, List.setIfInBounds_toArray, List.set_cons_zero, List.set_cons_succ])))
      refine Txt.tl_call Tryz.func32 (by kernel_rfl) (by kernel_rfl) (by rfl) (by rfl) (by rfl) (M.wraw HM.out 3 rfl x.v (by (have q1 := HB.out; (try simp only [List.length_append, be_len, Byt.arr_size, List.toList_toArray, x.hu, HKl.out, HVl.out]); omega))) ?_
      rintro e w6 ⟨rfl, sv6, h1⟩
      have HM : Hid _ := h1
      clear h1
      refine ⟨_, rfl, HM.out.range 4 rfl, ?_⟩
      simp only [Act.put, List.setIfInBounds_toArray, List.set_cons_zero, List.set_cons_succ]
      (repeat (first | (refine Txt.tl_pure (v := ?_) (by rfl) ?_ ?_; rotate_left; (focus (intro _; go_simp; try with_reducible rfl)); simp only [Act.put, List.setIfInBounds_toArray, List.set_cons_zero, List.set_cons_succ]) | (refine Txt.tl_convR (by rfl) (by rfl) (by rfl) (v := .string ⟨x.u.toArray⟩) (fun w2 h => conv_id w2 ub 0 x.u x.hu _ (rng_wu (h.range (HM.out.range 4 rfl)))) ?_; simp only [Act.put, List.setIfInBounds_toArray, List.set_cons_zero, List.set_cons_succ]) | (refine Txt.tl_convQ (by rfl) (by rfl) (by rfl) (v := .string ⟨x.u.toArray⟩) (fun w2 h => conv_id w2 ub 0 x.u x.hu _ (rng_wu h)) ?_; simp only [Act.put, List.setIfInBounds_toArray, List.set_cons_zero, List.set_cons_succ]) | (refine Txt.tl_loadS (v := .string x.k) (ty := 9) (by rfl) (by rfl) (by rfl) (by kernel_rfl) (fun _ h => rng_wk h) ?_; simp only [Act.put, List.setIfInBounds_toArray, List.set_cons_zero, List.set_cons_succ]) | (refine Txt.tl_loadS (v := .string x.v) (ty := 9) (by rfl) (by rfl) (by rfl) (by kernel_rfl) (fun _ h => rng_wv h) ?_; simp only [Act.put, List.setIfInBounds_toArray, List.set_cons_zero, List.set_cons_succ])))
      refine Txt.tl_nil ?_
      go_wp2
      go_roundw
      case rel =>
        refine ⟨k + 1, sv6, by omega, by go_num, ?_⟩
        rw [HE.out, ← List.append_assoc, HBs.out]
        have := HM.out.take 4
        simpa [wrB, List.append_assoc] using this
      case measure => simp [intOf]; omega
    · obtain rfl : q = k := by omega
      have HM : Hid (M (mfoot b bl bo) w wr [muI b bl bo L O, rW (.slice la q lc) X, ids (.slice ga g gc) G', Mem.wr bw (be 4 q ++ X.flatMap wrB) sv]) := by have := HM.out; rwa [List.take_of_length_le (by rw [Hq.out]; exact Nat.le_refl _)] at this
      have HB : Hid ((be 4 q ++ X.flatMap wrB).length ≤ 100000) := by
        show _ ≤ _
        have h1 := wrB_len X HXs.out
        have h2 := Hq.out
        rw [List.length_append, be_len]
        omega
      obtain ⟨cs, hcs⟩ : ∃ cs, be 4 q ++ X.flatMap wrB = cs := ⟨_, rfl⟩
      have HCs : Hid (be 4 q ++ X.flatMap wrB = cs) := hcs
      rw [hcs] at HM HB
      clear hcs
      go_wp2_with (first | (go_at_call 31; refine (M.wnum HM.out 3 rfl g 4 (by omega) (by omega) (by omega) (by have := HB.out; omega)).mono ?_; rintro e w6 ⟨rfl, sv6, h6⟩; have HM : Hid _ := h6; clear h6))
      go_loopw [54] (fun s54 wr => ∃ (k : Nat) (sv : Value), k ≤ g ∧ s54 = .int .i64 k ∧ M (mfoot b bl bo) w wr [muI b bl bo L O, rW (.slice la q lc) X, ids (.slice ga g gc) G', Mem.wr bw (cs ++ be 4 g ++ (G'.take k).flatten) sv]) (fun s54 _ => g - (intOf s54).toNat)
      case atStart => exact ⟨0, sv6, Nat.zero_le _, by go_num, by have := HM.out; simpa using this⟩
      case round =>
        clear HM
        obtain ⟨k, sv, hk, rfl, hM⟩ := hrel
        have HM : Hid (M (mfoot b bl bo) w wr [muI b bl bo L O, rW (.slice la q lc) X, ids (.slice ga g gc) G', Mem.wr bw (cs ++ be 4 g ++ (G'.take k).flatten) sv]) := hM
        clear hM
        by_cases hlt : k < g
        · obtain ⟨u, hu⟩ : ∃ u, G'[k]? = some u := ⟨_, List.getElem?_eq_getElem (by rw [Hgl.out]; exact hlt)⟩
          have hat : At wr ga g G' := own_idat (c := gc) (HM.out.get 2 rfl)
          obtain ⟨g0, o0, e0, _, hr0⟩ := hat.lay.resolve_left (by omega)
          subst e0
          have hul := hat.size u (List.mem_of_getElem? hu)
          have R1 : Hid (wr.rangeAt g0 (o0 + k * 32) (u.map bv)) := hr0 k u hu
          have HU : Hid (u.length = 32) := hul
          have HUs : Hid ((u.map bv).toArray.size = 32) := by show _ = _; rw [List.size_toArray, List.length_map]; exact hul
          have hcv := conv_id (wr.alloc (.cells (u.map bv).toArray 38)) wr.heap.size 0 u hul 32 (range_new wr _ _)
          have HE : Hid ((G'.take (k + 1)).flatten = (G'.take k).flatten ++ u) := flat_takeW hu
          have HLn : Hid ((cs ++ be 4 g ++ (G'.take k).flatten).length + (⟨u.toArray⟩ : ByteArray).size ≤ 1000000000) := by
            show _ ≤ _
            have h1 := HB.out
            have h2 := Ids.flat_take G' k hat.size (by rw [Hgl.out]; omega)
            rw [List.length_append, List.length_append, be_len, h2, Byt.arr_size, hul]
            omega
          clear hr0 hu hat hul
          go_wp2_with (first | ((with_reducible refine at_load 38 ?_); refine Ids.wl_load rfl rfl rfl HU.out R1.out ?_; simp only [Act.put, List.setIfInBounds_toArray, List.set_cons_zero, List.set_cons_succ]) | ((with_reducible refine at_alloc 38 ?_); refine St.wl_alloc tyI rfl rfl (by (try simp only [World.size_alloc]); rfl) ?_; simp only [Act.put, List.setIfInBounds_toArray, List.set_cons_zero, List.set_cons_succ]) | ((with_reducible refine at_store 38 ?_); refine St.wl_storeN (W := wr) tyI rfl rfl rfl rfl rfl (by (try simp only [World.size_alloc])) (show _ = Value.agg (u.map bv).toArray from rfl) HUs.out rfl (one_bv _) ?_; have HM : Hid _ := HM.out.alloc (.cells (u.map bv).toArray 38) rfl) | (go_at_call 32; refine (M.wraw HM.out 3 rfl ⟨u.toArray⟩ HLn.out).mono ?_; rintro e w7 ⟨rfl, sv7, h7⟩; have HM : Hid _ := h7; clear h7))
          go_roundw
          case rel =>
            refine ⟨k + 1, sv7, by omega, by go_num, ?_⟩
            rw [HE.out]
            have := HM.out.take 4
            simpa [List.append_assoc] using this
          case measure => simp [intOf]; omega
        · obtain rfl : g = k := by omega
          have HM : Hid (M (mfoot b bl bo) w wr [muI b bl bo L O, rW (.slice la q lc) X, ids (.slice ga g gc) G', Mem.wr bw (cs ++ be 4 g ++ G'.flatten) sv]) := by have := HM.out; rwa [List.take_of_length_le (by rw [Hgl.out]; exact Nat.le_refl _)] at this
          have HP : Hid (putW X G' = cs ++ be 4 g ++ G'.flatten) := by show _ = _; unfold putW; rw [Hq.out, Hgl.out, HCs.out]
          go_wp2_with (first | (go_at_call 33; refine (M.wdone HM.out 3 rfl).mono ?_; rintro e w7 ⟨rfl, h7⟩; have HM : Hid _ := h7; clear h7))
          go_ret
          refine ⟨⟨X, ?_, HXr.out, HXm.out, HXl.out⟩, MTo.ofI (F := fun _ => False) (w0 := w) HM.out 0 rfl⟩
          rw [HP.out, List.append_assoc]
          rfl
end Mu
end Go.Proofs.YtgpimeobkacniaaGreat


namespace Go.Proofs.YtgpimeobkacniaaGreat
open Go.RowKit
namespace Mu
open Oct Ids Seg
open OctRd (be_len)
open Ref (endv)
open Sq (Til fit fit_len fit_eq pad_of dr_zero ids_bound flat32)
/-- A node read. -/
def rw1 (s : ByteArray) (a : Nat) (b : Int) : Wr × Nat × Int :=
  let p1 := rraw s a b 32
  let p2 := rnum s p1.2.1 p1.2.2 1
  let p3 := rraw s p2.2.1 p2.2.2 p2.1
  let p4 := rnum s p3.2.1 p3.2.2 1
  let p5 := rraw s p4.2.1 p4.2.2 p4.1
  (⟨fit (pad p1.1.data.toList), fit_len _, p3.1, p5.1⟩, p5.2.1, p5.2.2)
def rwL (s : ByteArray) (a : Nat) (b : Int) : Nat → List Wr × Nat × Int
  | 0 => ([], a, b)
  | k + 1 => ((rwL s a b k).1 ++ [(rw1 s (rwL s a b k).2.1 (rwL s a b k).2.2).1], (rw1 s (rwL s a b k).2.1 (rwL s a b k).2.2).2)
theorem rwL_len (s : ByteArray) (a : Nat) (b : Int) : ∀ k, (rwL s a b k).1.length = k
  | 0 => rfl
  | k + 1 => by simp [rwL, rwL_len s a b k]
theorem rw1_ok {s : ByteArray} {a : Nat} {d : Wr} {a' : Nat} (h : rw1 s a 0 = (d, a', 0)) (hle : a ≤ s.size) : dr s a = wrB d ++ dr s a' ∧ a' ≤ s.size ∧ a + 34 ≤ a' := by
  unfold rw1 at h
  obtain ⟨x1, a1, b1, h1⟩ : ∃ x a' b', rraw s a 0 32 = (x, a', b') := ⟨_, _, _, rfl⟩
  obtain ⟨n2, a2, b2, h2⟩ : ∃ x a' b', rnum s a1 b1 1 = (x, a', b') := ⟨_, _, _, rfl⟩
  obtain ⟨x3, a3, b3, h3⟩ : ∃ x a' b', rraw s a2 b2 n2 = (x, a', b') := ⟨_, _, _, rfl⟩
  obtain ⟨n4, a4, b4, h4⟩ : ∃ x a' b', rnum s a3 b3 1 = (x, a', b') := ⟨_, _, _, rfl⟩
  obtain ⟨x5, a5, b5, h5⟩ : ∃ x a' b', rraw s a4 b4 n4 = (x, a', b') := ⟨_, _, _, rfl⟩
  simp only [h1, h2, h3, h4, h5, Prod.mk.injEq] at h
  obtain ⟨rfl, rfl, rfl⟩ := h
  have e4 : b4 = 0 := Classical.byContradiction fun hb => hb (raw_stuck h5 hb).2.2.symm
  subst e4
  have e3 : b3 = 0 := Classical.byContradiction fun hb => hb (num_stuck h4 hb).2.2.symm
  subst e3
  have e2 : b2 = 0 := Classical.byContradiction fun hb => hb (raw_stuck h3 hb).2.2.symm
  subst e2
  have e1 : b1 = 0 := Classical.byContradiction fun hb => hb (num_stuck h2 hb).2.2.symm
  subst e1
  obtain ⟨d1, l1, z1⟩ := raw_ok (k := 32) h1 hle
  obtain ⟨d2, l2⟩ := num_ok (k := 1) (m := 1) (by decide) (by decide) h2 l1
  obtain ⟨d3, l3, z3⟩ := raw_ok (k := n2) h3 l2
  obtain ⟨d4, l4⟩ := num_ok (k := 1) (m := 1) (by decide) (by decide) h4 l3
  obtain ⟨d5, l5, z5⟩ := raw_ok (k := n4) h5 l4
  have s1 : x1.data.toList.length = 32 := by rw [len_s]; exact z1
  refine ⟨?_, l5, ?_⟩
  · rw [d1, d2, d3, d4, d5]
    unfold wrB
    simp only [pad_of s1, fit_eq s1, z3, z5, List.append_assoc]
  · have e1 := congrArg List.length d1
    have e2 := congrArg List.length d2
    have e3 := congrArg List.length d3
    have e4 := congrArg List.length d4
    have e5 := congrArg List.length d5
    simp only [List.length_append, dr_len, be_len, s1] at e1 e2 e3 e4 e5
    omega
theorem rw1_stuck {s : ByteArray} {a : Nat} {b : Int} (hb : b ≠ 0) : (rw1 s a b).2.2 = b := by
  unfold rw1
  obtain ⟨x1, a1, b1, h1⟩ : ∃ x a' b', rraw s a b 32 = (x, a', b') := ⟨_, _, _, rfl⟩
  obtain ⟨n2, a2, b2, h2⟩ : ∃ x a' b', rnum s a1 b1 1 = (x, a', b') := ⟨_, _, _, rfl⟩
  obtain ⟨x3, a3, b3, h3⟩ : ∃ x a' b', rraw s a2 b2 n2 = (x, a', b') := ⟨_, _, _, rfl⟩
  obtain ⟨n4, a4, b4, h4⟩ : ∃ x a' b', rnum s a3 b3 1 = (x, a', b') := ⟨_, _, _, rfl⟩
  obtain ⟨x5, a5, b5, h5⟩ : ∃ x a' b', rraw s a4 b4 n4 = (x, a', b') := ⟨_, _, _, rfl⟩
  simp only [h1, h2, h3, h4, h5]
  obtain ⟨_, _, rfl⟩ := raw_stuck h1 hb
  obtain ⟨_, _, rfl⟩ := num_stuck h2 hb
  obtain ⟨_, _, rfl⟩ := raw_stuck h3 hb
  obtain ⟨_, _, rfl⟩ := num_stuck h4 hb
  obtain ⟨_, _, rfl⟩ := raw_stuck h5 hb
  rfl
theorem rwL_ok (s : ByteArray) (a : Nat) (hle : a ≤ s.size) : ∀ k, (rwL s a 0 k).2.2 = 0 → dr s a = (rwL s a 0 k).1.flatMap wrB ++ dr s (rwL s a 0 k).2.1 ∧ (rwL s a 0 k).2.1 ≤ s.size ∧ a + 34 * k ≤ (rwL s a 0 k).2.1
  | 0, _ => ⟨rfl, hle, Nat.le_refl _⟩
  | k + 1, h => by
    obtain ⟨L, a1, b1, hL⟩ : ∃ L a' b', rwL s a 0 k = (L, a', b') := ⟨_, _, _, rfl⟩
    obtain ⟨d, a2, b2, hd⟩ : ∃ L a' b', rw1 s a1 b1 = (L, a', b') := ⟨_, _, _, rfl⟩
    have e : rwL s a 0 (k + 1) = (L ++ [d], a2, b2) := by simp only [rwL, hL, hd]
    rw [e] at h ⊢
    simp only at h
    subst h
    have e1 : b1 = 0 := Classical.byContradiction fun hb => by
      have := rw1_stuck (s := s) (a := a1) hb
      rw [hd] at this
      exact hb this.symm
    subst e1
    have ih := rwL_ok s a hle k (by rw [hL])
    rw [hL] at ih
    obtain ⟨i1, i2, i3⟩ := ih
    obtain ⟨j1, j2, j3⟩ := rw1_ok hd i2
    refine ⟨?_, j2, by simp only at i3 ⊢; omega⟩
    simp only at i1 ⊢
    rw [i1, j1]
    simp
theorem rwL_bound {s : ByteArray} {a : Nat} {b : Int} {k : Nat} (ha : a ≤ s.size) (hg : ∀ j, j ≤ k → (rwL s a b j).2.2 = 0) : 34 * k ≤ s.size := by
  have hb : b = 0 := hg 0 (Nat.zero_le _)
  subst hb
  have := (rwL_ok s a ha k (hg k (Nat.le_refl _))).2
  omega
/-- All that is read. -/
structure RwA (s : ByteArray) (L : List Wr) (G : List Wd) (a : Nat) (b : Int) : Prop where
  ex : ∃ n a1 b1 k a2 b2 m a3 b3 j, rnum s 0 0 4 = (n, a1, b1) ∧ Til (rwL s a1 b1) n k ∧ rwL s a1 b1 k = (L, a2, b2) ∧ rnum s a2 b2 4 = (m, a3, b3) ∧ Til (rdIds s a3 b3) m j ∧ rdIds s a3 b3 j = (G, a, b)
theorem RwA.uniq {s : ByteArray} {L L' : List Wr} {G G' : List Wd} {a a' : Nat} {b b' : Int} (h : RwA s L G a b) (h' : RwA s L' G' a' b') : L = L' ∧ G = G' ∧ a = a' ∧ b = b' := by
  obtain ⟨n, a1, b1, k, a2, b2, m, a3, b3, j, h1, h2, h3, h4, h5, h6⟩ := h
  obtain ⟨n', a1', b1', k', a2', b2', m', a3', b3', j', g1, g2, g3, g4, g5, g6⟩ := h'
  rw [h1] at g1
  cases g1
  obtain rfl := h2.uniq g2
  rw [h3] at g3
  cases g3
  rw [h4] at g4
  cases g4
  obtain rfl := h5.uniq g5
  rw [h6] at g6
  cases g6
  exact ⟨rfl, rfl, rfl, rfl⟩
def badW (x : Wr) : Bool := decide (16 < x.k.size ∨ 16 < x.v.size)
def FineW (s : ByteArray) (L : List Wr) (G : List Wd) (a : Nat) : Prop := endv s a 0 = 0 ∧ L.Pairwise ltW ∧ IdL.Srt G ∧ ∀ x ∈ L, x.u ∉ G
/-- Why it is none; 0: it is one. -/
def LwV (s : ByteArray) (L : List Wr) (G : List Wd) (a : Nat) (b v : Int) : Prop :=
  (b ≠ 0 ∧ v = b) ∨ (b = 0 ∧ (((∃ x ∈ L, badW x = true) ∧ v = 3) ∨ ((∀ x ∈ L, badW x = false) ∧ ((v = 0 ∧ FineW s L G a) ∨ (v = 4 ∧ ¬ FineW s L G a)))))
theorem LwV.uniq {s : ByteArray} {L : List Wr} {G : List Wd} {a : Nat} {b v v' : Int} (h : LwV s L G a b v) (h' : LwV s L G a b v') : v = v' := by
  rcases h with ⟨h1, h2⟩ | ⟨h1, h2⟩ <;> rcases h' with ⟨g1, g2⟩ | ⟨g1, g2⟩
  · rw [h2, g2]
  · exact absurd g1 h1
  · exact absurd h1 g1
  · rcases h2 with ⟨⟨x, hx, hb⟩, h4⟩ | ⟨h3, h4⟩ <;> rcases g2 with ⟨⟨y, hy, hc⟩, g4⟩ | ⟨g3, g4⟩
    · rw [h4, g4]
    · rw [g3 x hx] at hb; cases hb
    · rw [h3 y hy] at hc; cases hc
    · rcases h4 with ⟨h5, h6⟩ | ⟨h5, h6⟩ <;> rcases g4 with ⟨g5, g6⟩ | ⟨g5, g6⟩
      · rw [h5, g5]
      · exact absurd h6 g6
      · exact absurd g6 h6
      · rw [h5, g5]
theorem LwV.zero {s : ByteArray} {L : List Wr} {G : List Wd} {a : Nat} {b : Int} (h : LwV s L G a b 0) : b = 0 ∧ Small L ∧ FineW s L G a := by
  rcases h with ⟨h1, h2⟩ | ⟨h1, ⟨_, h4⟩ | ⟨h3, ⟨_, h4⟩ | ⟨h4, _⟩⟩⟩
  · exact absurd h2.symm h1
  · cases h4
  · refine ⟨h1, fun x hx => ?_, h4⟩
    have := h3 x hx
    unfold badW at this
    simp only [decide_eq_false_iff_not] at this
    omega
  · cases h4
/-- What is read, put again. -/
theorem put_of_rd {s : ByteArray} {L : List Wr} {G : List Wd} {a : Nat} {b : Int} (h : RwA s L G a b) (hz : LwV s L G a b 0) : (⟨(putW L G).toArray⟩ : ByteArray) = s := by
  obtain ⟨rfl, _, hf, _, _, _⟩ := hz.zero
  obtain ⟨n, a1, b1, k, a2, b2, m, a3, b3, j, h1, h2, h3, h4, h5, h6⟩ := h
  have e3 : b3 = 0 := Classical.byContradiction fun hb => by
    have := ids_stuck s a3 b3 hb j
    rw [h6] at this
    exact hb this.symm
  subst e3
  have e2 : b2 = 0 := Classical.byContradiction fun hb => hb (num_stuck h4 hb).2.2.symm
  subst e2
  have e1 : b1 = 0 := Classical.byContradiction fun hb => by
    have hs : ∀ k, (rwL s a1 b1 k).2.2 = b1 := fun k => by
      induction k with
      | zero => rfl
      | succ k ih =>
        show (rw1 s (rwL s a1 b1 k).2.1 (rwL s a1 b1 k).2.2).2.2 = b1
        rw [ih]
        exact rw1_stuck hb
    have := hs k
    rw [h3] at this
    exact hb this.symm
  subst e1
  obtain ⟨d1, l1⟩ := num_ok (k := 4) (m := 4) (by decide) (by decide) h1 (Nat.zero_le _)
  have h3' : (rwL s a1 0 k).2.2 = 0 := by rw [h3]
  obtain ⟨d2, l2, _⟩ := rwL_ok s a1 l1 k h3'
  rw [h3] at d2 l2
  obtain ⟨d3, l3⟩ := num_ok (k := 4) (m := 4) (by decide) (by decide) h4 l2
  have h6' : (rdIds s a3 0 j).2.2 = 0 := by rw [h6]
  obtain ⟨d4, l4⟩ := ids_ok s a3 l3 j h6'
  rw [h6] at d4 l4
  obtain ⟨e5, _⟩ := end_ok hf
  have kn : k = n := h2.stop.resolve_right (fun hc => hc h3')
  have jm : j = m := h5.stop.resolve_right (fun hc => hc h6')
  have kl : L.length = k := by have := rwL_len s a1 0 k; rwa [h3] at this
  have jl : G.length = j := by have := rdIds_len s a3 0 j; rwa [h6] at this
  simp only at d2 d3 d4
  rw [dr_zero, d2, d3, d4, e5, dr_end] at d1
  have : s = ⟨s.data.toList.toArray⟩ := by simp
  rw [this, d1]
  unfold putW
  rw [kl, jl, kn, jm]
  simp
theorem rw1_seg {T : ByteArray} {a : Nat} {d : Wr} {r : List UInt8} (h : dr T a = wrB d ++ r) (hk : d.k.size < 256) (hv : d.v.size < 256) (hle : a ≤ T.size) : ∃ p, rw1 T a 0 = (d, p, 0) ∧ dr T p = r ∧ p ≤ T.size := by
  unfold wrB at h
  simp only [List.append_assoc] at h
  obtain ⟨e1, g1, l1⟩ := raw_seg h 32 (by rw [d.hu]; rfl) hle
  obtain ⟨e2, g2, l2⟩ := num_seg (m := 1) (k := 1) g1 (by decide) (by decide) (by omega) (by omega) l1
  obtain ⟨e3, g3, l3⟩ := raw_seg g2 d.k.size (by rw [len_s]) l2
  obtain ⟨e4, g4, l4⟩ := num_seg (m := 1) (k := 1) g3 (by decide) (by decide) (by omega) (by omega) l3
  obtain ⟨e5, g5, l5⟩ := raw_seg g4 d.v.size (by rw [len_s]) l4
  refine ⟨_, ?_, g5, l5⟩
  have z1 := d.hu
  have ek : (((d.k.size : Int).toNat : Nat) : Int) = (d.k.size : Int) := Int.toNat_of_nonneg (by omega)
  have ev : (((d.v.size : Int).toNat : Nat) : Int) = (d.v.size : Int) := Int.toNat_of_nonneg (by omega)
  unfold rw1
  simp only [e1, e2, ek, e3, e4, ev, e5]
  obtain ⟨u, hu, k, v⟩ := d
  simp only [pad_of hu, fit_eq hu]
theorem rwL_seg {T : ByteArray} {a : Nat} (hle : a ≤ T.size) : ∀ (X : List Wr) (r : List UInt8), Small X → dr T a = X.flatMap wrB ++ r → ∀ k, k ≤ X.length → ∃ p, rwL T a 0 k = (X.take k, p, 0) ∧ dr T p = (X.drop k).flatMap wrB ++ r ∧ p ≤ T.size := by
  intro X r hX h k
  induction k with
  | zero => exact fun _ => ⟨a, rfl, h, hle⟩
  | succ k ih =>
    intro hk
    obtain ⟨p, h1, h2, h3⟩ := ih (by omega)
    have hd : X[k]? = some X[k] := List.getElem?_eq_getElem (by omega)
    have hck := hX X[k] (List.getElem_mem _)
    rw [List.drop_eq_getElem_cons (by omega : k < X.length), List.flatMap_cons, List.append_assoc] at h2
    obtain ⟨p', g1, g2, g3⟩ := rw1_seg h2 (by omega) (by omega) h3
    refine ⟨p', ?_, g2, g3⟩
    show ((rwL T a 0 k).1 ++ [(rw1 T (rwL T a 0 k).2.1 (rwL T a 0 k).2.2).1], (rw1 T (rwL T a 0 k).2.1 (rwL T a 0 k).2.2).2) = _
    rw [h1]
    simp only
    rw [g1, List.take_add_one, hd]
    rfl
/-- What is put, read. -/
theorem rd_of_put {X : List Wr} {G : List Wd} (hX : Small X) (hG : ∀ u ∈ G, u.length = 32) (hXl : X.length ≤ 1000) (hGl : G.length ≤ 1000) : RwA ⟨(putW X G).toArray⟩ X G (⟨(putW X G).toArray⟩ : ByteArray).size 0 := by
  obtain ⟨T, hT⟩ : ∃ T : ByteArray, (⟨(putW X G).toArray⟩ : ByteArray) = T := ⟨_, rfl⟩
  rw [hT]
  have h0 : dr T 0 = be 4 X.length ++ (X.flatMap wrB ++ (be 4 G.length ++ (G.flatten ++ []))) := by
    rw [dr_zero, ← hT]
    simp [putW, List.append_assoc]
  obtain ⟨e1, g1, l1⟩ := num_seg (m := 4) (k := 4) h0 (by decide) (by decide) (by omega) (by omega) (Nat.zero_le _)
  obtain ⟨p, e2, g2, l2⟩ := rwL_seg l1 X _ hX g1 X.length (Nat.le_refl _)
  rw [List.drop_length, List.flatMap_nil, List.nil_append] at g2
  obtain ⟨e3, g3, l3⟩ := num_seg (m := 4) (k := 4) g2 (by decide) (by decide) (by omega) (by omega) l2
  obtain ⟨e4, g4, l4⟩ := ids_seg l3 G [] hG g3 G.length (Nat.le_refl _)
  have hend : p + 4 + 32 * G.length = T.size := by
    have := congrArg List.length g4
    rw [dr_len] at this
    simp at this
    omega
  rw [show ((X.length : Nat) : Int).toNat = X.length from rfl] at e1
  rw [show ((G.length : Nat) : Int).toNat = G.length from rfl] at e3
  refine ⟨X.length, _, 0, X.length, p, 0, G.length, p + 4, 0, G.length, e1, ⟨Nat.le_refl _, fun j hj => ?_, .inl rfl⟩, by rw [e2, List.take_length], e3, ⟨Nat.le_refl _, fun j hj => ?_, .inl rfl⟩, by rw [e4, List.take_length, hend]⟩
  · obtain ⟨p', h', _⟩ := rwL_seg l1 X _ hX g1 j (by omega)
    rw [h']
  · have := (ids_seg l3 G [] hG g3 j (by omega)).1
    rw [this]
theorem fine_put {X : List Wr} {G : List Wd} {s : ByteArray} (h1 : X.Pairwise ltW) (h2 : IdL.Srt G) (hX : Small X) (hd : ∀ x ∈ X, x.u ∉ G) : LwV s X G s.size 0 0 :=
  .inr ⟨rfl, .inr ⟨fun x hx => by
    have := hX x hx
    unfold badW
    rw [decide_eq_false_iff_not]
    omega, .inl ⟨rfl, by unfold endv; simp, h1, h2, hd⟩⟩⟩
theorem RwA.bound {s : ByteArray} {L : List Wr} {G : List Wd} {a : Nat} {b : Int} (h : RwA s L G a b) (hs : s.size ≤ 30000) : L.length ≤ 900 ∧ G.length ≤ 950 := by
  obtain ⟨n, a1, b1, k, a2, b2, m, a3, b3, j, h1, h2, h3, h4, h5, h6⟩ := h
  have kl : L.length = k := by have := rwL_len s a1 b1 k; rwa [h3] at this
  have jl : G.length = j := by have := rdIds_len s a3 b3 j; rwa [h6] at this
  have step : ∀ {a : Nat} {b : Int}, (b = 0 → a ≤ s.size) → ∀ {x : Nat × Nat × Int}, rnum s a b 4 = x → (x.2.2 = 0 → x.2.1 ≤ s.size) := fun {a b} ha {x} hx h0 => by
    by_cases hb : b = 0
    · subst hb
      obtain ⟨x1, x2, x3⟩ := x
      simp only at h0
      subst h0
      exact (num_ok (k := 4) (m := 4) (by decide) (by decide) hx (ha rfl)).2
    · obtain ⟨x1, x2, x3⟩ := x
      have := (num_stuck hx hb).2.2
      simp only at h0
      rw [h0] at this
      exact absurd this.symm hb
  have s1 : b1 = 0 → a1 ≤ s.size := step (fun _ => Nat.zero_le _) h1
  have hk : k ≤ 900 := by
    rcases Nat.eq_zero_or_pos k with h0 | h0
    · omega
    · have hb : b1 = 0 := h2.good 0 h0
      have := rwL_bound (k := k - 1) (s1 hb) (fun i hi => h2.good i (by omega))
      omega
  have s2 : b2 = 0 → a2 ≤ s.size := fun hb => by
    have hb1 : b1 = 0 := Classical.byContradiction fun hc => by
      have hs : ∀ k, (rwL s a1 b1 k).2.2 = b1 := fun k => by
        induction k with
        | zero => rfl
        | succ k ih =>
          show (rw1 s (rwL s a1 b1 k).2.1 (rwL s a1 b1 k).2.2).2.2 = b1
          rw [ih]
          exact rw1_stuck hc
      have := hs k
      rw [h3, hb] at this
      exact hc this.symm
    subst hb1
    have := rwL_ok s a1 (s1 rfl) k (by rw [h3]; exact hb)
    rw [h3] at this
    exact this.2.1
  have s3 : b3 = 0 → a3 ≤ s.size := step s2 h4
  have hj : j ≤ 950 := by
    rcases Nat.eq_zero_or_pos j with h0 | h0
    · omega
    · have hb : b3 = 0 := h5.good 0 h0
      have := ids_bound (k := j - 1) (s3 hb) (fun i hi => h5.good i (by omega))
      omega
  exact ⟨by omega, by omega⟩
end Mu
end Go.Proofs.YtgpimeobkacniaaGreat


namespace Go.Proofs.YtgpimeobkacniaaGreat
open Go.RowKit
namespace Mu
open Oct Ids Mp Seg
open Mem (M It blk ids rows rd)
open OctRd (be_len)
open Sq (Til fit fit_len fit_eq ids_bound wl_buildL at_load at_alloc at_store fill_cons tyI)
set_option maxRecDepth 100000 in
set_option maxHeartbeats 1000000 in
theorem id_any (w : World) (b : Nat) (s : ByteArray) (a : Nat) (bad : Int) (x : ByteArray) (a' : Nat) (b' : Int) (h : IsR w b s a bad) (hv : rraw s a bad 32 = (x, a', b')) :
    Calls Tryz.prog 42 #[.pointer (some ⟨b, 0, none⟩)] w fun e w' => e = .returned (idv (pad x.data.toList)) ∧ IsR w' b s a' b' ∧ Keep (fun k => k = b) w w' := by
  have hx : x.size ≤ 32 := by have := rraw_32 s a bad; rw [hv] at this; exact this
  have Hv : Hid _ := hv
  have Hpl : Hid ((pad x.data.toList).length = 32) := pad_len x.data.toList (by rw [Array.length_toList]; exact hx)
  have hbw := lt_of_block h.blk
  have HM : Hid (M (fun k => k = b) w _ [rd b s a bad, blk w.heap.size (.cells z32 38), blk (w.heap.size + 1) (.cells z32 38)]) := ((M.start1 (x := rd b s a bad) h (fun k hk => by cases hk; exact hbw)).alloc (.cells z32 38) rfl).alloc (.cells z32 38) (by simp)
  clear h hv
  go_enter Tryz.func42, Tryz.ntmps42
  go_wp2_with (first | (refine St.wl_alloc tyI rfl rfl (by (try simp only [World.size_alloc]); rfl) ?_; simp only [Act.put, List.setIfInBounds_toArray, List.set_cons_zero, List.set_cons_succ]) | ((fail_if_success go_not_at_region 2); refine Txt.wp_region_text (id := 2) (fun _ => True) [0, 0, 4, 4] (by kernel_rfl) (by kernel_rfl) trivial ?_; have HM : Hid _ := HM.out.drew; (repeat (first | (refine Txt.tl_pure (v := ?_) (by rfl) ?_ ?_; rotate_left; (focus (intro _; go_simp; try with_reducible rfl)); simp only [Act.put, List.setIfInBounds_toArray, List.set_cons_zero, List.set_cons_succ]) | (refine Txt.tl_skip (by rfl) (by first | trivial | exact HS.out) ?_; simp only [Act.put, List.setIfInBounds_toArray, List.set_cons_zero, List.set_cons_succ]) | (refine Txt.tl_load (v := ?_) (by rfl) (by rfl) (by rfl) (by kernel_rfl) ?_ ?_; rotate_left; (focus (first | assumption | (go_simp; done) | (go_simp; with_reducible rfl))); simp only [Act.put, List.setIfInBounds_toArray, List.set_cons_zero, List.set_cons_succ]) | (refine Txt.tl_loadB (v := ?_) (by rfl) (by rfl) (by rfl) (by kernel_rfl) ?_ ?_; rotate_left; (focus assumption); simp only [Act.put, List.setIfInBounds_toArray, List.set_cons_zero, List.set_cons_succ]))); refine Txt.tl_call Tryz.func43 (by kernel_rfl) (by kernel_rfl) (by rfl) (by rfl) (by rfl) (M.rraw HM.out 0 rfl Hv.out) ?_; rintro e w1 ⟨rfl, h1⟩; have HM : Hid _ := h1; clear h1; refine ⟨_, rfl, trivial, ?_⟩; simp only [Act.put, List.setIfInBounds_toArray, List.set_cons_zero, List.set_cons_succ]; (repeat (first | (refine Txt.tl_pure (v := ?_) (by rfl) ?_ ?_; rotate_left; (focus (intro _; go_simp; try with_reducible rfl)); simp only [Act.put, List.setIfInBounds_toArray, List.set_cons_zero, List.set_cons_succ]) | (refine Txt.tl_skip (by rfl) (by first | trivial | exact HS.out) ?_; simp only [Act.put, List.setIfInBounds_toArray, List.set_cons_zero, List.set_cons_succ]) | (refine Txt.tl_load (v := ?_) (by rfl) (by rfl) (by rfl) (by kernel_rfl) ?_ ?_; rotate_left; (focus (first | assumption | (go_simp; done) | (go_simp; with_reducible rfl))); simp only [Act.put, List.setIfInBounds_toArray, List.set_cons_zero, List.set_cons_succ]) | (refine Txt.tl_loadB (v := ?_) (by rfl) (by rfl) (by rfl) (by kernel_rfl) ?_ ?_; rotate_left; (focus assumption); simp only [Act.put, List.setIfInBounds_toArray, List.set_cons_zero, List.set_cons_succ]))); refine Txt.tl_loud (by rfl) ?_; refine wp_copy rfl rfl rfl hx (HM.out.get 2 rfl) ?_; intro w3 h3 k3; have HM : Hid (M (fun k => k = b) w w3 [rd b s a' b', blk w.heap.size (.cells z32 38), blk (w.heap.size + 1) (.cells ((pad x.data.toList).map bv).toArray 38)]) := HM.out.upd 2 rfl k3 (fun _ h => h) (y := blk (w.heap.size + 1) (.cells ((pad x.data.toList).map bv).toArray 38)) h3 (fun k hk => .inl hk); clear h3 k3; refine ⟨trivial, ?_⟩; simp only [Act.put, List.setIfInBounds_toArray, List.set_cons_zero, List.set_cons_succ]; (repeat (first | (refine Txt.tl_pure (v := ?_) (by rfl) ?_ ?_; rotate_left; (focus (intro _; go_simp; try with_reducible rfl)); simp only [Act.put, List.setIfInBounds_toArray, List.set_cons_zero, List.set_cons_succ]) | (refine Txt.tl_skip (by rfl) (by first | trivial | exact HS.out) ?_; simp only [Act.put, List.setIfInBounds_toArray, List.set_cons_zero, List.set_cons_succ]) | (refine Txt.tl_load (v := ?_) (by rfl) (by rfl) (by rfl) (by kernel_rfl) ?_ ?_; rotate_left; (focus (first | assumption | (go_simp; done) | (go_simp; with_reducible rfl))); simp only [Act.put, List.setIfInBounds_toArray, List.set_cons_zero, List.set_cons_succ]) | (refine Txt.tl_loadB (v := ?_) (by rfl) (by rfl) (by rfl) (by kernel_rfl) ?_ ?_; rotate_left; (focus assumption); simp only [Act.put, List.setIfInBounds_toArray, List.set_cons_zero, List.set_cons_succ]))); refine Txt.tl_nil ?_) | (refine St.wl_load tyI (by rfl) rfl rfl (HM.out.range 2 rfl) (by rw [List.length_map]; exact Hpl.out) ?_; simp only [Act.put, List.setIfInBounds_toArray, List.set_cons_zero, List.set_cons_succ]) | (refine St.wl_store tyI rfl rfl rfl rfl rfl (by rw [List.size_toArray, List.length_map]; exact Hpl.out) (one_bv _) (HM.out.get 1 rfl) (by simp) ?_; have HM : Hid _ := HM.out.setr 1 rfl ((pad x.data.toList).map bv).toArray))
  refine bodyPost_ret (St.res1 tyI rfl _ _ w.heap.size _ (by rw [List.size_toArray, List.length_map]; exact Hpl.out) rfl (HM.out.get 1 rfl)) rfl ?_
  exact ⟨rfl, HM.out.get 0 rfl, HM.out.keep⟩
section
variable {F : Nat → Prop} {w0 w : World} {l : List Mem.It}
theorem id_m (h : M F w0 w l) (i : Nat) {b : Nat} {s : ByteArray} {a : Nat} {bad : Int} (hi : l[i]? = some (rd b s a bad)) {x : ByteArray} {a' : Nat} {b' : Int} (hv : rraw s a bad 32 = (x, a', b')) {r : List UInt8} (hr : pad x.data.toList = r) :
    Calls Tryz.prog 42 #[.pointer (some ⟨b, 0, none⟩)] w fun e w' => e = .returned (idv r) ∧ M F w0 w' (l.set i (rd b s a' b')) := by
  subst hr
  refine (id_any w b s a bad x a' b' (h.get i hi) hv).mono ?_
  rintro e w' ⟨rfl, h1, k1⟩
  exact ⟨rfl, h.upd i hi k1 (fun _ h => h) (y := rd b s a' b') h1 (fun k hk => .inl hk)⟩
end
theorem built_wr1 (u : Wd) (hu : u.length = 32) : Tryz.prog.built 54 [(0, idv u)] = some (we ⟨u, hu, ByteArray.empty, ByteArray.empty⟩).toArray := by
  have l32 : (u.map bv).length = 32 := by rw [List.length_map, hu]
  rw [show Tryz.prog.built 54 [(0, idv u)] = Instr.fill (fun i => #[(0, 32), (32, 1), (33, 1)][i]?) wz [(0, idv u)] from by kernel_rfl]
  have hz : wz = ((List.replicate 32 (0 : UInt8)).map bv ++ [Value.string ByteArray.empty, Value.string ByteArray.empty]).toArray := rfl
  rw [hz, fill_cons (off := 0) (size := 32) (cs := u.map bv) rfl rfl l32 (by decide)]
  rw [List.take_zero, List.nil_append, List.drop_left' (by decide), Instr.fill]
  rfl
theorem we_setk {u : Wd} {hu : u.length = 32} {k k' v : ByteArray} : (we ⟨u, hu, k, v⟩).toArray.setIfInBounds 32 (.string k') = (we ⟨u, hu, k', v⟩).toArray := by
  have l32 : (u.map bv).length = 32 := by rw [List.length_map, hu]
  rw [List.setIfInBounds_toArray]
  unfold we
  simp only
  rw [List.set_append_right _ _ (by rw [l32]; exact Nat.le_refl _), l32]
  rfl
theorem we_setv {u : Wd} {hu : u.length = 32} {k v v' : ByteArray} : (we ⟨u, hu, k, v⟩).toArray.setIfInBounds 33 (.string v') = (we ⟨u, hu, k, v'⟩).toArray := by
  have l32 : (u.map bv).length = 32 := by rw [List.length_map, hu]
  rw [List.setIfInBounds_toArray]
  unfold we
  simp only
  rw [List.set_append_right _ _ (by rw [l32]; omega), l32]
  rfl
section
variable {ops : Array Oper} {rest : List Oper} {o : Oper} {a : Act} {w : World} {Q : Exit → Act → World → Prop}
theorem run_storeStr {w : World} {p : Addr} {v : ByteArray} {old : Value} (hc : w.cell? p = some old) (hf : w.frozen? p = false) : (Instr.storeAt 9 (.pointer (some p)) (.string v)).run Tryz.prog w = .ok () (w.setCell p (.string v)) := by
  go_simp
theorem wl_storeStr (hgd : o.guard = none) {x y : Operand} (ho : o.op = .store 9 x y) (hd : o.dst = none) {p : Addr} (hx : a.eval x = .pointer (some p)) {v : ByteArray} (hy : a.eval y = .string v) {old : Value} (hc : w.cell? p = some old) (hf : w.frozen? p = false)
    (h : wpList Tryz.prog ops Q rest a (w.setCell p (.string v))) : wpList Tryz.prog ops Q (o :: rest) a w :=
  wpList_plain hgd fun K hK => by
    unfold Oper.wp execOp
    simp only [ho, hx, hy, Sem.run_bind, run_storeStr hc hf, Result.andThen_ok, Sem.run_pure]
    rw [Oper.upon_skip, hd]
    exact hK _ _ h
end
theorem rwL_step {s : ByteArray} {a1 : Nat} {b1 : Int} {k : Nat} {L : List Wr} {a : Nat} {b : Int} {d : Wr} {a' : Nat} {b' : Int} (h : rwL s a1 b1 k = (L, a, b)) (hx : rw1 s a b = (d, a', b')) : rwL s a1 b1 (k + 1) = (L ++ [d], a', b') := by
  show ((rwL s a1 b1 k).1 ++ [(rw1 s (rwL s a1 b1 k).2.1 (rwL s a1 b1 k).2.2).1], (rw1 s (rwL s a1 b1 k).2.1 (rwL s a1 b1 k).2.2).2) = _
  rw [h]
  simp only
  rw [hx]
theorem pad_32 {s : ByteArray} {a : Nat} {b : Int} {x : ByteArray} {a' : Nat} {b' : Int} (h : rraw s a b 32 = (x, a', b')) : (pad x.data.toList).length = 32 := by
  have := rraw_32 s a b
  rw [h] at this
  exact pad_len x.data.toList (by rw [Array.length_toList]; exact this)
/-- One writing, in five readings. -/
structure W5 (s : ByteArray) (a : Nat) (b : Int) (u : Wd) (hu : u.length = 32) (k v : ByteArray) (a5 : Nat) (b5 : Int) : Prop where
  ex : ∃ x1 a1 b1 n a2 b2 a3 b3 m a4 b4, rraw s a b 32 = (x1, a1, b1) ∧ pad x1.data.toList = u ∧ rnum s a1 b1 1 = (n, a2, b2) ∧ rraw s a2 b2 n = (k, a3, b3) ∧ rnum s a3 b3 1 = (m, a4, b4) ∧ rraw s a4 b4 m = (v, a5, b5)
theorem W5.one {s : ByteArray} {a : Nat} {b : Int} {u : Wd} {hu : u.length = 32} {k v : ByteArray} {a5 : Nat} {b5 : Int} (h : W5 s a b u hu k v a5 b5) : rw1 s a b = (⟨u, hu, k, v⟩, a5, b5) := by
  obtain ⟨x1, a1, b1, n, a2, b2, a3, b3, m, a4, b4, h1, h2, h3, h4, h6, h7⟩ := h
  unfold rw1
  subst h2
  simp only [h1, h3, h4, h6, h7, fit_eq hu]
theorem w5_of (s : ByteArray) (a : Nat) (b : Int) : ∃ u hu k v a5 b5, W5 s a b u hu k v a5 b5 := by
  obtain ⟨x1, a1, b1, h1⟩ : ∃ x a' b', rraw s a b 32 = (x, a', b') := ⟨_, _, _, rfl⟩
  obtain ⟨n2, a2, b2, h2⟩ : ∃ x a' b', rnum s a1 b1 1 = (x, a', b') := ⟨_, _, _, rfl⟩
  obtain ⟨x3, a3, b3, h3⟩ : ∃ x a' b', rraw s a2 b2 n2 = (x, a', b') := ⟨_, _, _, rfl⟩
  obtain ⟨n4, a4, b4, h4⟩ : ∃ x a' b', rnum s a3 b3 1 = (x, a', b') := ⟨_, _, _, rfl⟩
  obtain ⟨x5, a5, b5, h5⟩ : ∃ x a' b', rraw s a4 b4 n4 = (x, a', b') := ⟨_, _, _, rfl⟩
  exact ⟨pad x1.data.toList, pad_32 h1, x3, x5, a5, b5, ⟨x1, a1, b1, n2, a2, b2, a3, b3, n4, a4, b4, h1, rfl, h2, h3, h4, h5⟩⟩
/-- What read comes to. -/
structure WRdPost (w : World) (b : Nat) (s : ByteArray) (e : Ending) (w' : World) : Prop where
  ex : ∃ (L : List Wr) (G : List Wd) (a : Nat) (bad : Int) (v1 v2 : Value), e = .returned (.tuple #[v1, v2]) ∧ RwA s L G a bad ∧ M (fun k => k = b) w w' [rd b s a bad, rows 54 34 we v1 L, ids v2 G]
set_option maxRecDepth 100000 in
set_option maxHeartbeats 16000000 in
theorem wread_any (w : World) (b : Nat) (s : ByteArray) (h : IsR w b s 0 0) (hs : s.size ≤ 30000) :
    Calls Tryz.prog 15 #[.pointer (some ⟨b, 0, none⟩)] w (WRdPost w b s) := by
  have hbw := lt_of_block h.blk
  have HM : Hid (M (fun k => k = b) w w [rd b s 0 0, rows 54 34 we (.slice none 0 0) [], ids (.slice none 0 0) []]) := ((M.start1 (x := rd b s 0 0) h (fun k hk => by cases hk; exact hbw)).nilR 54 34 we).nilI
  obtain ⟨n, a1, b1, h1⟩ : ∃ x a' b', rnum s 0 0 4 = (x, a', b') := ⟨_, _, _, rfl⟩
  have H1 : Hid (rnum s 0 0 4 = (n, a1, b1)) := h1
  have Hs : Hid (s.size ≤ 30000) := hs
  clear h hbw h1 hs
  go_enter Tryz.func15, Tryz.ntmps15
  go_wp2_with (first | (go_at_call 41; refine (M.rnum HM.out 0 rfl H1.out).mono ?_; rintro e w1 ⟨rfl, h1⟩; have HM : Hid (M (fun k => k = b) w w1 [rd b s a1 b1, rows 54 34 we (.slice none 0 0) [], ids (.slice none 0 0) []]) := h1; clear h1))
  go_loopw [2, 5] (fun s2 s5 wr => ∃ (k : Nat) (v : Value) (L : List Wr) (a : Nat) (bad : Int), k ≤ n ∧ s2 = v ∧ s5 = .int .i64 k ∧ M (fun k => k = b) w wr [rd b s a bad, rows 54 34 we v L, ids (.slice none 0 0) []] ∧ rwL s a1 b1 k = (L, a, bad) ∧ (∀ j, j < k → (rwL s a1 b1 j).2.2 = 0)) (fun _ s5 _ => n - (intOf s5).toNat)
  case atStart => exact ⟨0, _, [], a1, b1, Nat.zero_le _, rfl, by go_num, HM.out, rfl, fun j hj => absurd hj (Nat.not_lt_zero _)⟩
  case round =>
    clear HM
    obtain ⟨k, v, L, a, bad, hk, e1, rfl, hM, hR, hg⟩ := hrel
    replace e1 := e1.symm
    subst e1
    have HM : Hid (M (fun k => k = b) w wr [rd b s a bad, rows 54 34 we v L, ids (.slice none 0 0) []]) := hM
    have HR : Hid (rwL s a1 b1 k = (L, a, bad)) := hR
    have HG : Hid (∀ j, j < k → (rwL s a1 b1 j).2.2 = 0) := hg
    have HLl : Hid (L.length = k) := by have := rwL_len s a1 b1 k; rw [hR] at this; exact this
    clear hM hR hg
    by_cases hcc : k < n ∧ bad = 0
    · obtain ⟨hlt, rfl⟩ := hcc
      have HG1 : Hid (∀ j, j < k + 1 → (rwL s a1 b1 j).2.2 = 0) := fun j hj => by
        rcases Nat.lt_or_ge j k with h1 | h1
        · exact HG.out j h1
        · obtain rfl : j = k := by omega
          rw [HR.out]
      have hkb : k ≤ 900 := by
        have hale : a ≤ s.size := (show IsR wr b s a 0 from HM.out.get 0 rfl).le
        rcases Nat.eq_zero_or_pos k with h0 | h0
        · omega
        · have hb1 : b1 = 0 := HG.out 0 h0
          have := rwL_ok s a1 (by
            have h1 := H1.out
            rw [hb1] at h1
            exact (num_ok (k := 4) (m := 4) (by decide) (by decide) h1 (Nat.zero_le _)).2) k (by rw [hb1] at HR; rw [HR.out])
          rw [hb1] at HR
          rw [HR.out] at this
          have h2 := this.2.2
          have h3 := Hs.out
          simp only at h2
          omega
      obtain ⟨u, hu, kx, x5, c5, e5, H5⟩ := w5_of s a 0
      have HS : Hid (rwL s a1 b1 (k + 1) = (L ++ [⟨u, hu, kx, x5⟩], c5, e5)) := rwL_step HR.out H5.one
      obtain ⟨x1, c1, e1, n2, c2, e2, c3, e3, m, c4, e4, q1, q1', q2, q3, q4, q5⟩ := H5
      have Q1 : Hid (rraw s a 0 32 = (x1, c1, e1)) := q1
      have Q1' : Hid (pad x1.data.toList = u) := q1'
      have Q2 : Hid (rnum s c1 e1 1 = (n2, c2, e2)) := q2
      have Q3 : Hid (rraw s c2 e2 n2 = (kx, c3, e3)) := q3
      have Q4 : Hid (rnum s c3 e3 1 = (m, c4, e4)) := q4
      have Q5 : Hid (rraw s c4 e4 m = (x5, c5, e5)) := q5
      have HU : Hid (u.length = 32) := hu
      clear q1 q1' q2 q3 q4 q5
      go_wp2_with (first | (go_at_call 16; refine (M.rerr HM.out 0 rfl).mono ?_; rintro e w2 ⟨rfl, h2⟩; replace h2 := h2.symm; subst h2) | (go_at_call 42; refine (id_m HM.out 0 rfl Q1.out Q1'.out).mono ?_; rintro e w3 ⟨rfl, h3⟩; have HM : Hid (M (fun k => k = b) w w3 [rd b s c1 e1, rows 54 34 we v L, ids (.slice none 0 0) []]) := h3; clear h3; obtain ⟨ob, hob⟩ : ∃ ob, w3.heap.size = ob := ⟨_, rfl⟩; have Hob : Hid (w3.heap.size = ob) := hob; clear hob) | (refine wl_buildL rfl rfl [(0, idv u)] rfl (built_wr1 u HU.out) ?_; simp only [Act.put, List.setIfInBounds_toArray, List.set_cons_zero, List.set_cons_succ]) | ((with_reducible refine at_alloc 54 ?_); refine St.wl_alloc tyW rfl rfl Hob.out ?_; simp only [Act.put, List.setIfInBounds_toArray, List.set_cons_zero, List.set_cons_succ]) | ((with_reducible refine at_store 54 ?_); refine St.wl_storeN (W := w3) tyW rfl rfl rfl rfl rfl Hob.out (show _ = Value.agg (we ⟨u, HU.out, ByteArray.empty, ByteArray.empty⟩).toArray from rfl) (we_sz _) rfl (encW.all _) ?_; have HM : Hid (M (fun k => k = b) w _ [rd b s c1 e1, rows 54 34 we v L, ids (.slice none 0 0) [], blk ob (.cells (we ⟨u, HU.out, ByteArray.empty, ByteArray.empty⟩).toArray 54)]) := HM.out.alloc (.cells (we ⟨u, HU.out, ByteArray.empty, ByteArray.empty⟩).toArray 54) Hob.out) | (go_at_call 41; first | (refine (M.rnum HM.out 0 rfl Q2.out).mono ?_; rintro e w4 ⟨rfl, h4⟩; have HM : Hid _ := h4; clear h4) | (refine (M.rnum HM.out 0 rfl Q4.out).mono ?_; rintro e w6 ⟨rfl, h6⟩; have HM : Hid _ := h6; clear h6)) | (go_at_call 43; first | (refine (M.rraw HM.out 0 rfl Q3.out).mono ?_; rintro e w5 ⟨rfl, h5⟩; have HM : Hid _ := h5; clear h5) | (refine (M.rraw HM.out 0 rfl Q5.out).mono ?_; rintro e w7 ⟨rfl, h7⟩; have HM : Hid _ := h7; clear h7)) | ((with_reducible refine at_store 9 ?_); first | (refine wl_storeStr rfl rfl rfl rfl (show _ = Value.string kx from rfl) (rng_wk (HM.out.range 3 rfl)) (HM.out.free 3 rfl 32) ?_; have HM := HM.out.setc 3 rfl 32 (.string kx); rw [we_setk] at HM; have HM : Hid _ := HM) | (refine wl_storeStr rfl rfl rfl rfl (show _ = Value.string x5 from rfl) (rng_wv (HM.out.range 3 rfl)) (HM.out.free 3 rfl 33) ?_; have HM := HM.out.setc 3 rfl 33 (.string x5); rw [we_setv] at HM; have HM : Hid _ := HM)) | ((with_reducible refine at_load 54 ?_); refine St.wl_load tyW rfl rfl rfl (HM.out.range 3 rfl) (we_len _) ?_; simp only [Act.put, List.setIfInBounds_toArray, List.set_cons_zero, List.set_cons_succ]) | (refine St.wl_build slW (by decide) rfl rfl (we_len _) rfl ?_; have HM : Hid _ := HM.out.alloc (.cells (we ⟨u, HU.out, kx, x5⟩).toArray 54) rfl; simp only [Act.put, List.setIfInBounds_toArray, List.set_cons_zero, List.set_cons_succ]) | (refine St.wl_app1z encW slW (by decide) rfl rfl rfl (HM.out.get 1 rfl) rfl ⟨u, HU.out, kx, x5⟩ rfl (HM.out.get 4 rfl) (by have := HLl.out; omega) ?_; intro v8 w8 h8 k8 g8; have HM : Hid _ := HM.out.appR 1 rfl h8 k8 g8; clear h8 k8 g8; simp only [Act.put, List.setIfInBounds_toArray, List.set_cons_zero, List.set_cons_succ]))
      go_roundw
      case rel => exact ⟨k + 1, v8, _, c5, e5, by omega, rfl, by go_num, HM.out.take 3, HS.out, HG1.out⟩
      case measure => simp [intOf]; omega
    · obtain ⟨m, a3, b3, q6⟩ : ∃ x a' b', rnum s a bad 4 = (x, a', b') := ⟨_, _, _, rfl⟩
      have Q6 : Hid (rnum s a bad 4 = (m, a3, b3)) := q6
      clear q6
      by_cases hlt : k < n
      · have hbz : ¬ bad = 0 := fun h => hcc ⟨hlt, h⟩
        have HTl : Hid (Til (rwL s a1 b1) n k) := ⟨hk, HG.out, .inr (by rw [HR.out]; exact hbz)⟩
        clear hcc
        go_wp2_with (first | (go_at_call 16; refine (M.rerr HM.out 0 rfl).mono ?_; rintro e w2 ⟨rfl, h2⟩; replace h2 := h2.symm; subst h2) | (go_at_call 41; refine (M.rnum HM.out 0 rfl Q6.out).mono ?_; rintro e w9 ⟨rfl, h9⟩; have HM : Hid (M (fun k => k = b) w w9 [rd b s a3 b3, rows 54 34 we v L, ids (.slice none 0 0) []]) := h9; clear h9))
        have ha3 : a3 ≤ s.size := (show IsR w9 b s a3 b3 from HM.out.get 0 rfl).le
        go_loopw [3, 7] (fun s3 s7 wr => ∃ (j : Nat) (v2 : Value) (G : List Wd) (a : Nat) (bad : Int), j ≤ m ∧ s3 = v2 ∧ s7 = .int .i64 j ∧ M (fun k => k = b) w wr [rd b s a bad, rows 54 34 we v L, ids v2 G] ∧ rdIds s a3 b3 j = (G, a, bad) ∧ (∀ i, i < j → (rdIds s a3 b3 i).2.2 = 0)) (fun _ s7 _ => m - (intOf s7).toNat)
        case atStart => exact ⟨0, _, [], a3, b3, Nat.zero_le _, rfl, by go_num, HM.out, rfl, fun j hj => absurd hj (Nat.not_lt_zero _)⟩
        case round =>
          clear HM
          obtain ⟨j, v2, G, a4, bad4, hj, e2, rfl, hM, hR2, hg2⟩ := hrel
          replace e2 := e2.symm
          subst e2
          have HM : Hid (M (fun k => k = b) w wr [rd b s a4 bad4, rows 54 34 we v L, ids v2 G]) := hM
          have HR2 : Hid (rdIds s a3 b3 j = (G, a4, bad4)) := hR2
          have HG2 : Hid (∀ i, i < j → (rdIds s a3 b3 i).2.2 = 0) := hg2
          have HGl : Hid (G.length = j) := by have := rdIds_len s a3 b3 j; rw [hR2] at this; exact this
          clear hM hR2 hg2
          by_cases hc2 : j < m ∧ bad4 = 0
          · obtain ⟨hlt2, rfl⟩ := hc2
            have HG3 : Hid (∀ i, i < j + 1 → (rdIds s a3 b3 i).2.2 = 0) := fun i hi => by
              rcases Nat.lt_or_ge i j with h1 | h1
              · exact HG2.out i h1
              · obtain rfl : i = j := by omega
                rw [HR2.out]
            have hjb : j ≤ 950 := by
              have := ids_bound (k := j) ha3 (fun i hi => HG3.out i (by omega))
              have := Hs.out
              omega
            obtain ⟨x, a', b', hx⟩ : ∃ x a' b', rraw s a4 0 32 = (x, a', b') := ⟨_, _, _, rfl⟩
            have HS2 : Hid (rdIds s a3 b3 (j + 1) = (G ++ [pad x.data.toList], a', b')) := rdIds_step HR2.out hx
            have Hx : Hid (rraw s a4 0 32 = (x, a', b')) := hx
            obtain ⟨u, hu⟩ : ∃ u, pad x.data.toList = u := ⟨_, rfl⟩
            have HUe : Hid (pad x.data.toList = u) := hu
            have HU : Hid (u.length = 32) := by show _ = _; rw [← hu]; exact pad_32 hx
            clear hx hu
            go_wp2_with (first | (go_at_call 16; refine (M.rerr HM.out 0 rfl).mono ?_; rintro e w2 ⟨rfl, h2⟩; replace h2 := h2.symm; subst h2) | (go_at_call 42; refine (id_m HM.out 0 rfl Hx.out HUe.out).mono ?_; rintro e w3 ⟨rfl, h3⟩; have HM : Hid _ := h3; clear h3) | (refine Ids.wl_build rfl rfl HU.out rfl ?_; have HM : Hid _ := HM.out.alloc (.cells (u.map bv).toArray 38) rfl; simp only [Act.put, List.setIfInBounds_toArray, List.set_cons_zero, List.set_cons_succ]) | (refine Ids.wl_app1 rfl rfl rfl (HM.out.get 2 rfl) rfl HU.out (HM.out.get 3 rfl) (by have := HGl.out; omega) ?_; intro v8 w8 h8 k8 g8; have HM : Hid _ := HM.out.appI 2 rfl h8 k8 g8; clear h8 k8 g8; simp only [Act.put, List.setIfInBounds_toArray, List.set_cons_zero, List.set_cons_succ]))
            go_roundw
            case rel => exact ⟨j + 1, v8, G ++ [u], a', b', by omega, rfl, by go_num, HM.out.take 3, by rw [HS2.out, HUe.out], HG3.out⟩
            case measure => simp [intOf]; omega
          · by_cases hlt2 : j < m
            · have hbz2 : ¬ bad4 = 0 := fun h => hc2 ⟨hlt2, h⟩
              have HT2 : Hid (Til (rdIds s a3 b3) m j) := ⟨hj, HG2.out, .inr (by rw [HR2.out]; exact hbz2)⟩
              clear hc2
              go_wp2_with (first | (go_at_call 16; refine (M.rerr HM.out 0 rfl).mono ?_; rintro e w2 ⟨rfl, h2⟩; replace h2 := h2.symm; subst h2))
              go_ret2
              exact ⟨L, G, a4, bad4, v, v2, rfl, ⟨_, _, _, _, _, _, _, _, _, _, H1.out, HTl.out, HR.out, Q6.out, HT2.out, HR2.out⟩, HM.out⟩
            · obtain rfl : m = j := by omega
              have HT2 : Hid (Til (rdIds s a3 b3) m m) := ⟨Nat.le_refl _, HG2.out, .inl rfl⟩
              clear hc2 hlt2
              go_wp2
              go_ret2
              exact ⟨L, G, a4, bad4, v, v2, rfl, ⟨_, _, _, _, _, _, _, _, _, _, H1.out, HTl.out, HR.out, Q6.out, HT2.out, HR2.out⟩, HM.out⟩
      · obtain rfl : n = k := by omega
        have HTl : Hid (Til (rwL s a1 b1) n n) := ⟨Nat.le_refl _, HG.out, .inl rfl⟩
        clear hcc hlt
        go_wp2_with (first | (go_at_call 16; refine (M.rerr HM.out 0 rfl).mono ?_; rintro e w2 ⟨rfl, h2⟩; replace h2 := h2.symm; subst h2) | (go_at_call 41; refine (M.rnum HM.out 0 rfl Q6.out).mono ?_; rintro e w9 ⟨rfl, h9⟩; have HM : Hid (M (fun k => k = b) w w9 [rd b s a3 b3, rows 54 34 we v L, ids (.slice none 0 0) []]) := h9; clear h9))
        have ha3 : a3 ≤ s.size := (show IsR w9 b s a3 b3 from HM.out.get 0 rfl).le
        go_loopw [3, 7] (fun s3 s7 wr => ∃ (j : Nat) (v2 : Value) (G : List Wd) (a : Nat) (bad : Int), j ≤ m ∧ s3 = v2 ∧ s7 = .int .i64 j ∧ M (fun k => k = b) w wr [rd b s a bad, rows 54 34 we v L, ids v2 G] ∧ rdIds s a3 b3 j = (G, a, bad) ∧ (∀ i, i < j → (rdIds s a3 b3 i).2.2 = 0)) (fun _ s7 _ => m - (intOf s7).toNat)
        case atStart => exact ⟨0, _, [], a3, b3, Nat.zero_le _, rfl, by go_num, HM.out, rfl, fun j hj => absurd hj (Nat.not_lt_zero _)⟩
        case round =>
          clear HM
          obtain ⟨j, v2, G, a4, bad4, hj, e2, rfl, hM, hR2, hg2⟩ := hrel
          replace e2 := e2.symm
          subst e2
          have HM : Hid (M (fun k => k = b) w wr [rd b s a4 bad4, rows 54 34 we v L, ids v2 G]) := hM
          have HR2 : Hid (rdIds s a3 b3 j = (G, a4, bad4)) := hR2
          have HG2 : Hid (∀ i, i < j → (rdIds s a3 b3 i).2.2 = 0) := hg2
          have HGl : Hid (G.length = j) := by have := rdIds_len s a3 b3 j; rw [hR2] at this; exact this
          clear hM hR2 hg2
          by_cases hc2 : j < m ∧ bad4 = 0
          · obtain ⟨hlt2, rfl⟩ := hc2
            have HG3 : Hid (∀ i, i < j + 1 → (rdIds s a3 b3 i).2.2 = 0) := fun i hi => by
              rcases Nat.lt_or_ge i j with h1 | h1
              · exact HG2.out i h1
              · obtain rfl : i = j := by omega
                rw [HR2.out]
            have hjb : j ≤ 950 := by
              have := ids_bound (k := j) ha3 (fun i hi => HG3.out i (by omega))
              have := Hs.out
              omega
            obtain ⟨x, a', b', hx⟩ : ∃ x a' b', rraw s a4 0 32 = (x, a', b') := ⟨_, _, _, rfl⟩
            have HS2 : Hid (rdIds s a3 b3 (j + 1) = (G ++ [pad x.data.toList], a', b')) := rdIds_step HR2.out hx
            have Hx : Hid (rraw s a4 0 32 = (x, a', b')) := hx
            obtain ⟨u, hu⟩ : ∃ u, pad x.data.toList = u := ⟨_, rfl⟩
            have HUe : Hid (pad x.data.toList = u) := hu
            have HU : Hid (u.length = 32) := by show _ = _; rw [← hu]; exact pad_32 hx
            clear hx hu
            go_wp2_with (first | (go_at_call 16; refine (M.rerr HM.out 0 rfl).mono ?_; rintro e w2 ⟨rfl, h2⟩; replace h2 := h2.symm; subst h2) | (go_at_call 42; refine (id_m HM.out 0 rfl Hx.out HUe.out).mono ?_; rintro e w3 ⟨rfl, h3⟩; have HM : Hid _ := h3; clear h3) | (refine Ids.wl_build rfl rfl HU.out rfl ?_; have HM : Hid _ := HM.out.alloc (.cells (u.map bv).toArray 38) rfl; simp only [Act.put, List.setIfInBounds_toArray, List.set_cons_zero, List.set_cons_succ]) | (refine Ids.wl_app1 rfl rfl rfl (HM.out.get 2 rfl) rfl HU.out (HM.out.get 3 rfl) (by have := HGl.out; omega) ?_; intro v8 w8 h8 k8 g8; have HM : Hid _ := HM.out.appI 2 rfl h8 k8 g8; clear h8 k8 g8; simp only [Act.put, List.setIfInBounds_toArray, List.set_cons_zero, List.set_cons_succ]))
            go_roundw
            case rel => exact ⟨j + 1, v8, G ++ [u], a', b', by omega, rfl, by go_num, HM.out.take 3, by rw [HS2.out, HUe.out], HG3.out⟩
            case measure => simp [intOf]; omega
          · by_cases hlt2 : j < m
            · have hbz2 : ¬ bad4 = 0 := fun h => hc2 ⟨hlt2, h⟩
              have HT2 : Hid (Til (rdIds s a3 b3) m j) := ⟨hj, HG2.out, .inr (by rw [HR2.out]; exact hbz2)⟩
              clear hc2
              go_wp2_with (first | (go_at_call 16; refine (M.rerr HM.out 0 rfl).mono ?_; rintro e w2 ⟨rfl, h2⟩; replace h2 := h2.symm; subst h2))
              go_ret2
              exact ⟨L, G, a4, bad4, v, v2, rfl, ⟨_, _, _, _, _, _, _, _, _, _, H1.out, HTl.out, HR.out, Q6.out, HT2.out, HR2.out⟩, HM.out⟩
            · obtain rfl : m = j := by omega
              have HT2 : Hid (Til (rdIds s a3 b3) m m) := ⟨Nat.le_refl _, HG2.out, .inl rfl⟩
              clear hc2 hlt2
              go_wp2
              go_ret2
              exact ⟨L, G, a4, bad4, v, v2, rfl, ⟨_, _, _, _, _, _, _, _, _, _, H1.out, HTl.out, HR.out, Q6.out, HT2.out, HR2.out⟩, HM.out⟩
end Mu
end Go.Proofs.YtgpimeobkacniaaGreat


namespace Go.Proofs.YtgpimeobkacniaaGreat
open Go.RowKit
namespace Mu
open Oct Ids Mp Seg
open Mem (M It blk ids rows rd)
open Ref (endv)
open Sq (Til fit fit_len fit_eq ids_bound wl_buildL at_load at_alloc at_store fill_cons tyI put_dG own_idat widen two zeroB look_G dG addG)
/-- What holds behind the first i writings. -/
structure LwI (s : ByteArray) (L : List Wr) (G : List Wd) (a : Nat) (i : Nat) (e : Int) (Lm : List Wr) : Prop where
  ck : ∀ x ∈ L.take i, badW x = false
  zf : e = 0 ∨ e = 4
  z : e = 0 → endv s a 0 = 0 ∧ IdL.Srt G ∧ (L.take i).Pairwise ltW ∧ ∀ x ∈ L.take i, x.u ∉ G
  f : e = 4 → ¬ FineW s L G a
  nd : Lm.Nodup
  mem : ∀ x, x ∈ Lm ↔ x ∈ L.take i
theorem endv_zf (s : ByteArray) (a : Nat) : endv s a 0 = 0 ∨ endv s a 0 = 4 := by
  unfold endv
  rw [if_pos rfl]
  split
  · exact .inl rfl
  · exact .inr rfl
theorem LwI.start1 (s : ByteArray) (L : List Wr) {G : List Wd} (a : Nat) (hs : IdL.Srt G) : LwI s L G a 0 (endv s a 0) [] := by
  refine ⟨fun d hd => (by cases hd), endv_zf s a, fun h => ⟨h, hs, List.Pairwise.nil, fun x hx => (by cases hx)⟩, fun h hc => ?_, List.nodup_nil, fun x => Iff.rfl⟩
  have h1 := hc.1
  rw [h] at h1
  exact absurd h1 (by decide)
theorem LwI.start2 (s : ByteArray) (L : List Wr) {G : List Wd} (a : Nat) (hs : ¬ IdL.Srt G) : LwI s L G a 0 4 [] :=
  ⟨fun d hd => (by cases hd), .inr rfl, fun h => (by cases h), fun _ hc => hs hc.2.2.1, List.nodup_nil, fun x => Iff.rfl⟩
theorem mem_take1 {L : List Wr} {i : Nat} {x : Wr} (hx : L[i]? = some x) (y : Wr) : y ∈ L.take (i + 1) ↔ y ∈ L.take i ∨ y = x := by
  rw [List.take_add_one, hx, List.mem_append]
  simp
theorem LwI.bad {s : ByteArray} {L : List Wr} {G : List Wd} {a i : Nat} {e : Int} {Lm : List Wr} (h : LwI s L G a i e Lm) {x : Wr} (hx : L[i]? = some x) (hc : badW x = false) (hf : ¬ FineW s L G a) : LwI s L G a (i + 1) 4 (addW Lm x) :=
  ⟨fun y hy => ((mem_take1 hx y).1 hy).elim (h.ck y) (fun e => by rw [e]; exact hc), .inr rfl, fun h => (by cases h), fun _ => hf, addW_nd h.nd x, fun y => by rw [mem_addW, h.mem, mem_take1 hx]⟩
theorem LwI.good {s : ByteArray} {L : List Wr} {G : List Wd} {a i : Nat} {e : Int} {Lm : List Wr} (h : LwI s L G a i e Lm) {x : Wr} (hx : L[i]? = some x) (hc : badW x = false) (hu : x.u ∉ G) (ho : i = 0 ∨ ∃ y, L[i - 1]? = some y ∧ ltW y x) : LwI s L G a (i + 1) e (addW Lm x) := by
  refine ⟨fun y hy => ((mem_take1 hx y).1 hy).elim (h.ck y) (fun e => by rw [e]; exact hc), h.zf, fun h0 => ?_, h.f, addW_nd h.nd x, fun y => by rw [mem_addW, h.mem, mem_take1 hx]⟩
  obtain ⟨h1, h2, h3, h4⟩ := h.z h0
  refine ⟨h1, h2, ?_, fun y hy => ((mem_take1 hx y).1 hy).elim (h4 y) (fun e => by rw [e]; exact hu)⟩
  rw [List.take_add_one, hx, List.pairwise_append]
  refine ⟨h3, by simp, fun y hy z hz => ?_⟩
  obtain rfl : z = x := by simpa using hz
  rcases ho with rfl | ⟨t, ht, hlt⟩
  · cases hy
  · rcases Nat.eq_zero_or_pos i with h0 | h0
    · subst h0; cases hy
    · have e1 : L.take i = L.take (i - 1) ++ [t] := by
        have := List.take_add_one (l := L) (i := i - 1)
        rw [show i - 1 + 1 = i by omega, ht] at this
        simpa using this
      rw [e1] at hy h3
      rw [List.pairwise_append] at h3
      rcases List.mem_append.1 hy with hy | hy
      · exact ltW_trans (h3.2.2 y hy t (by simp)) hlt
      · obtain rfl : y = t := by simpa using hy
        exact hlt
theorem fine_ord {s : ByteArray} {L : List Wr} {G : List Wd} {a i : Nat} {x y : Wr} (hx : L[i]? = some x) (hy : L[i - 1]? = some y) (hi : 0 < i) (hn : ¬ ltW y x) : ¬ FineW s L G a := fun hf => hn (by
  have h2 := hf.2.1
  rw [List.pairwise_iff_getElem] at h2
  obtain ⟨g1, g2⟩ := List.getElem?_eq_some_iff.1 hy
  obtain ⟨g3, g4⟩ := List.getElem?_eq_some_iff.1 hx
  have := h2 (i - 1) i g1 g3 (by omega)
  rwa [g2, g4] at this)
theorem raw_size {s : ByteArray} {a : Nat} {b n : Int} {x : ByteArray} {a' : Nat} {b' : Int} (h : rraw s a b n = (x, a', b')) : x.size ≤ s.size := by
  unfold rraw at h
  split at h
  · cases h; exact Nat.zero_le _
  · split at h
    · cases h; exact Nat.zero_le _
    · split at h
      · cases h; exact Nat.zero_le _
      · cases h
        rw [ByteArray.size_extract]
        omega
theorem rwL_vs (s : ByteArray) (a : Nat) (b : Int) : ∀ k, ∀ d ∈ (rwL s a b k).1, d.k.size ≤ s.size ∧ d.v.size ≤ s.size
  | 0, d, hd => by cases hd
  | k + 1, d, hd => by
    have hd' : d ∈ (rwL s a b k).1 ++ [(rw1 s (rwL s a b k).2.1 (rwL s a b k).2.2).1] := hd
    rcases List.mem_append.1 hd' with h1 | h1
    · exact rwL_vs s a b k d h1
    · obtain rfl := List.mem_singleton.1 h1
      obtain ⟨u, hu, kx, v, a5, b5, h5⟩ := w5_of s (rwL s a b k).2.1 (rwL s a b k).2.2
      rw [h5.one]
      obtain ⟨_, _, _, _, _, _, _, _, _, _, _, _, _, _, q1, _, q2⟩ := h5
      exact ⟨raw_size q1, raw_size q2⟩
theorem RwA.vs {s : ByteArray} {L : List Wr} {G : List Wd} {a : Nat} {b : Int} (h : RwA s L G a b) : ∀ d ∈ L, d.k.size ≤ s.size ∧ d.v.size ≤ s.size := by
  obtain ⟨n, a1, b1, k, a2, b2, m, a3, b3, j, h1, h2, h3, h4, h5, h6⟩ := h
  have := rwL_vs s a1 b1 k
  rw [h3] at this
  exact this
/-- What Load comes to. -/
structure WLdPost (w : World) (s : ByteArray) (e : Ending) (w' : World) : Prop where
  ex : ∃ (L : List Wr) (G : List Wd) (a : Nat) (b v : Int) (p : Value), e = .returned (.tuple #[p, .int .i64 v]) ∧ RwA s L G a b ∧ LwV s L G a b v ∧ Keep (fun _ => False) w w' ∧ (v ≠ 0 → p = .pointer none) ∧ (v = 0 → ∃ (b bl bo : Nat) (Lm : List Wr), p = .pointer (some ⟨b, 0, none⟩) ∧ M (fun _ => False) w w' [muI b bl bo Lm (addGs [] G)] ∧ Lm.Nodup ∧ ∀ x, x ∈ Lm ↔ x ∈ L)
theorem M.app1 {F : Nat → Prop} {w0 w w' : World} {l : List It} {x : It} (h : M F w0 w l) (m : M (fun _ => False) w w' [x]) : M F w0 w' (l ++ [x]) :=
  h.add (x := x) m.keep (m.get 0 rfl) (fun k hk => by
    have := m.rng 0 x rfl k hk
    exact ⟨this.1.resolve_right (fun h => h), this.2⟩)
theorem at_dt {ops : Array Oper} {rest : List Oper} {op : Op} {ty : TypeId} {ps : String} {af} {g} {S : World → Prop} {ts : List Nat} {a : Act} {w : World} {Q : Act → World → Prop} (d : Tmp) (h : Txt.wpTG Tryz.prog ops S Q (⟨some d, op, ty, ps, af, g⟩ :: rest) ts a w) : Txt.wpTG Tryz.prog ops S Q (⟨some d, op, ty, ps, af, g⟩ :: rest) ts a w := h
set_option maxRecDepth 100000 in
set_option maxHeartbeats 16000000 in
theorem wload_any (w : World) (s : ByteArray) (hs : s.size ≤ 30000) :
    Calls Tryz.prog 5 #[.string s] w (WLdPost w s) := by
  have HM : Hid (M (fun _ => False) w w []) := M.start _ w
  have Hs : Hid (s.size ≤ 30000) := hs
  have Hsm : Hid (s.size ≤ maxLen) := by show _ ≤ _; unfold maxLen; omega
  obtain ⟨rb, hrb⟩ : ∃ b, w.heap.size = b := ⟨_, rfl⟩
  have Hrb : Hid (w.heap.size = rb) := hrb
  clear hs hrb
  go_enter Tryz.func5, Tryz.ntmps5
  go_wp2_with (first | (go_at_call 14; refine (M.open HM.out s Hsm.out Hrb.out).mono ?_; rintro e w1 ⟨rfl, h1⟩; have HM : Hid (M (fun _ => False) w w1 [rd rb s 0 0]) := h1; clear h1) | (go_at_call 15; refine (wread_any _ rb s (HM.out.get 0 rfl) Hs.out).mono ?_; rintro e w2 ⟨L, G, a, bad, v1, v2, rfl, hR, m2⟩; have HR : Hid (RwA s L G a bad) := hR; have HM : Hid (M (fun _ => False) w w2 [rd rb s a bad, rW v1 L, ids v2 G]) := widen m2 HM.out.keep (fun j hj => by rw [hj, ← Hrb.out]; exact Nat.le_refl _); clear m2 hR; obtain ⟨la, lc, el, _⟩ := (show St.Own 54 34 we w2 v1 L from HM.out.get 1 rfl).any; subst el; obtain ⟨ga, gc, eg, _⟩ := (show Ids.Own w2 v2 G from HM.out.get 2 rfl).at; subst eg; by_cases hb : bad = 0) | (go_at_call 16; refine (M.rerr HM.out 0 rfl).mono ?_; rintro e w3 ⟨rfl, h3⟩; replace h3 := h3.symm; subst h3))
  rotate_left
  · go_ret2
    exact ⟨L, G, a, bad, bad, _, rfl, HR.out, .inl ⟨hb, rfl⟩, HM.out.keep, fun _ => rfl, fun h => absurd h hb⟩
  subst hb
  obtain ⟨q, hq⟩ : ∃ q, L.length = q := ⟨_, rfl⟩
  obtain ⟨g, hg⟩ : ∃ g, G.length = g := ⟨_, rfl⟩
  have Hq : Hid (L.length = q) := hq
  have Hg : Hid (G.length = g) := hg
  rw [hq, hg] at HM
  rw [hq, hg]
  obtain ⟨hq5, hg9⟩ := HR.out.bound Hs.out
  rw [hq] at hq5
  rw [hg] at hg9
  clear hq hg
  obtain ⟨ev, hev⟩ : ∃ v, endv s a 0 = v := ⟨_, rfl⟩
  have Hev : Hid (endv s a 0 = ev) := hev
  clear hev
  go_wp2_with (first | (go_at_call 11; refine (mnew _).mono ?_; rintro e w4 ⟨b, bl, bo, rfl, m4⟩; have HM : Hid (M (fun _ => False) w w4 [rd rb s a 0, rW (.slice la q lc) L, ids (.slice ga g gc) G, muI b bl bo [] []]) := M.app1 HM.out m4; clear m4))
  go_loopw [28] (fun s28 wr => ∃ (j : Nat), j ≤ g ∧ s28 = .int .i64 j ∧ M (fun _ => False) w wr [rd rb s a 0, rW (.slice la q lc) L, ids (.slice ga g gc) G, muI b bl bo [] (addGs [] (G.take j))]) (fun s28 _ => g - (intOf s28).toNat)
  case atStart => exact ⟨0, Nat.zero_le _, by go_num, HM.out⟩
  case round =>
    clear HM
    obtain ⟨j, hj, rfl, hM⟩ := hrel
    have HM : Hid (M (fun _ => False) w wr [rd rb s a 0, rW (.slice la q lc) L, ids (.slice ga g gc) G, muI b bl bo [] (addGs [] (G.take j))]) := hM
    clear hM
    by_cases hlt : j < g
    · obtain ⟨u, hu⟩ : ∃ u, G[j]? = some u := ⟨_, List.getElem?_eq_getElem (by rw [Hg.out]; exact hlt)⟩
      have hat : At wr ga g G := own_idat (c := gc) (HM.out.get 2 rfl)
      obtain ⟨g0, o0, e0, _, hr0⟩ := hat.lay.resolve_left (by omega)
      subst e0
      have hul := hat.size u (List.mem_of_getElem? hu)
      have R1 : Hid (wr.rangeAt g0 (o0 + j * 32) (u.map bv)) := hr0 j u hu
      have HU : Hid (u.length = 32) := hul
      have HUs : Hid ((u.map bv).toArray.size = 32) := by show _ = _; rw [List.size_toArray, List.length_map]; exact hul
      have HE : Hid (addG (addGs [] (G.take j)) u = addGs [] (G.take (j + 1))) := addGs_take [] hu
      clear hr0 hu hat hul
      go_wp2_with (first | ((with_reducible refine at_load 38 ?_); refine Ids.wl_load rfl rfl rfl HU.out R1.out ?_; simp only [Act.put, List.setIfInBounds_toArray, List.set_cons_zero, List.set_cons_succ]) | ((with_reducible refine at_alloc 38 ?_); refine St.wl_alloc tyI rfl rfl (by (try simp only [World.size_alloc]); rfl) ?_; simp only [Act.put, List.setIfInBounds_toArray, List.set_cons_zero, List.set_cons_succ]) | ((with_reducible refine at_store 38 ?_); refine St.wl_storeN (W := wr) tyI rfl rfl rfl rfl rfl (by (try simp only [World.size_alloc])) (show _ = Value.agg (u.map bv).toArray from rfl) HUs.out rfl (one_bv _) ?_; have HM : Hid _ := HM.out.alloc (.cells (u.map bv).toArray 38) rfl))
      have HM : Hid _ := HM.out.drew
      have c1 := (show MuAt _ b bl bo [] (addGs [] (G.take j)) from HM.out.get 3 rfl).cells.2
      have RU : Hid _ := HM.out.range 4 rfl
      refine Txt.wp_region_text (fun _ => True) [0, 0, 0, 1, 1, 4] (by kernel_rfl) (by kernel_rfl) trivial ?_
      (repeat (first | (refine Txt.tl_pure (v := ?_) (by rfl) ?_ ?_; rotate_left; (focus (intro _; go_simp; try with_reducible rfl)); simp only [Act.put, List.setIfInBounds_toArray, List.set_cons_zero, List.set_cons_succ]) | (refine Txt.tl_load (v := ?_) (by rfl) (by rfl) (by rfl) (by kernel_rfl) ?_ ?_; rotate_left; (focus assumption); simp only [Act.put, List.setIfInBounds_toArray, List.set_cons_zero, List.set_cons_succ]) | (refine Txt.tl_rowN (n := 32) (ty := 38) (by rfl) (by rfl) (by rfl) RU.out (by kernel_rfl) (by rw [List.length_map]; exact HU.out) ?_; simp only [Act.put, List.setIfInBounds_toArray, List.set_cons_zero, List.set_cons_succ]) | (refine Txt.tl_rowN (n := 34) (ty := 54) (by rfl) (by rfl) (by rfl) (HM.out.range 4 rfl) (by kernel_rfl) (we_len _) ?_; simp only [Act.put, List.setIfInBounds_toArray, List.set_cons_zero, List.set_cons_succ]) | (refine Txt.tl_skip (by rfl) trivial ?_; simp only [Act.put, List.setIfInBounds_toArray, List.set_cons_zero, List.set_cons_succ])))
      refine Txt.tl_loud (by rfl) ?_
      refine Mp.wp_put idKey Tryz.underlying49 rfl rfl ((show MuAt _ b bl bo [] (addGs [] (G.take j)) from HM.out.get 3 rfl).all.get 2 rfl) HU.out rfl (v := .bool true) rfl ?_
      rw [put_dG, HE.out]
      intro w5 h5 k5
      have HM : Hid _ := M.mto HM.out 3 rfl (MTo.of (M.setMap (show MuAt _ b bl bo [] (addGs [] (G.take j)) from HM.out.get 3 rfl).all 2 rfl h5 k5))
      clear h5 k5 c1
      refine ⟨trivial, ?_⟩
      simp only [Act.put, List.setIfInBounds_toArray, List.set_cons_zero, List.set_cons_succ]
      refine Txt.tl_nil ?_
      go_wp2
      go_roundw
      case rel => exact ⟨j + 1, by omega, by go_num, HM.out.take 4⟩
      case measure => simp [intOf]; omega
    · obtain rfl : g = j := by omega
      have HGt : Hid (G.take g = G) := List.take_of_length_le (by rw [Hg.out]; exact Nat.le_refl _)
      have HM : Hid (M (fun _ => False) w wr [rd rb s a 0, rW (.slice la q lc) L, ids (.slice ga g gc) G, muI b bl bo [] (addGs [] G)]) := by have := HM.out; rwa [HGt.out] at this
      clear HGt
      go_wp2_with (first | (go_at_call 17; refine (M.rend HM.out 0 rfl Hev.out).mono ?_; rintro e w5 ⟨rfl, h5⟩; have HM : Hid (M (fun _ => False) w w5 [rd rb s a 0, rW (.slice la q lc) L, ids (.slice ga g gc) G, muI b bl bo [] (addGs [] G)]) := h5; clear h5) | (go_at_call 18; refine (is_any _ ga g gc G (own_idat (HM.out.get 2 rfl)) (by omega)).mono ?_; rintro e w6 ⟨⟨r, rfl, hr⟩, k6⟩; have HSr : Hid (r = true → IdL.Srt G) := hr.1; have HSf : Hid (IdL.Srt G → r = true) := hr.2; have HM : Hid _ := HM.out.calm k6; clear hr k6; cases r))
      · have hS : ¬ IdL.Srt G := by first | exact fun h => (by have := HSf.out h; cases this) | exact HSf.out
        have HI0 : Hid (LwI s L G a 0 4 []) := LwI.start2 s L a hS
        clear hS
        go_loopw [45, 10] (fun s45 s10 wr => ∃ (i : Nat) (e : Int) (Lm : List Wr), i ≤ q ∧ s45 = .int .i64 i ∧ s10 = .int .i64 e ∧ M (fun _ => False) w wr [rd rb s a 0, rW (.slice la q lc) L, ids (.slice ga g gc) G, muI b bl bo Lm (addGs [] G)] ∧ LwI s L G a i e Lm) (fun s45 _ _ => q - (intOf s45).toNat)
        case atStart => exact ⟨0, 4, [], Nat.zero_le _, by go_num, rfl, HM.out, HI0.out⟩
        case round =>
          clear HM HI0
          obtain ⟨i, e, Lm, hi, rfl, rfl, hM, hI⟩ := hrel
          have HM : Hid (M (fun _ => False) w wr [rd rb s a 0, rW (.slice la q lc) L, ids (.slice ga g gc) G, muI b bl bo Lm (addGs [] G)]) := hM
          have HI : Hid (LwI s L G a i e Lm) := hI
          clear hM hI
          by_cases hlt : i < q
          · obtain ⟨x, hd⟩ : ∃ d, L[i]? = some d := ⟨_, List.getElem?_eq_getElem (by rw [Hq.out]; exact hlt)⟩
            have Hd : Hid (L[i]? = some x) := hd
            obtain ⟨g0, o0, e0, _, hr0⟩ := (St.Own.slice (show St.Own 54 34 we wr (.slice la q lc) L from HM.out.get 1 rfl)).2.lay.resolve_left (by rw [Hq.out]; omega)
            subst e0
            have Rd : Hid (wr.rangeAt g0 (o0 + i * 34) (we x)) := hr0 i x hd
            have HU : Hid (x.u.length = 32) := x.hu
            obtain ⟨hvk, hvv⟩ := HR.out.vs x (List.mem_of_getElem? hd)
            have hs3 := Hs.out
            have HM : Hid (M (fun _ => False) w _ [rd rb s a 0, rW (.slice (some ⟨g0, o0, none⟩) q lc) L, ids (.slice ga g gc) G, muI b bl bo Lm (addGs [] G), blk wr.heap.size (.cells (we x).toArray 54)]) := HM.out.alloc (.cells (we x).toArray 54) rfl
            have d32 := rng_wk (HM.out.range 4 rfl)
            have d33 := rng_wv (HM.out.range 4 rfl)
            simp only [Nat.zero_add] at d32 d33
            obtain ⟨ob, hob⟩ : ∃ n, wr.heap.size = n := ⟨_, rfl⟩
            have Hob : Hid (wr.heap.size = ob) := hob
            rw [hob] at HM d32 d33
            clear hr0 hd hob
            have hbig : 16 < x.k.size ∨ (x.k.size ≤ 16 ∧ 16 < x.v.size) ∨ (x.k.size ≤ 16 ∧ x.v.size ≤ 16) := by omega
            rcases hbig with h1 | ⟨h1, h2⟩ | ⟨h1, h2⟩
            · have HBg : Hid (badW x = true) := by show _ = _; unfold badW; rw [decide_eq_true_eq]; exact .inl h1
              go_wp2_with (first | ((with_reducible refine at_load 54 ?_); refine St.wl_load tyW rfl rfl rfl Rd.out (we_len x) ?_; simp only [Act.put, List.setIfInBounds_toArray, List.set_cons_zero, List.set_cons_succ]) | ((with_reducible refine at_alloc 54 ?_); refine St.wl_alloc tyW rfl rfl Hob.out ?_; simp only [Act.put, List.setIfInBounds_toArray, List.set_cons_zero, List.set_cons_succ]) | ((with_reducible refine at_store 54 ?_); refine St.wl_storeN (W := wr) tyW rfl rfl rfl rfl rfl Hob.out (show _ = Value.agg (we x).toArray from rfl) (we_sz _) rfl (encW.all _) ?_))
              go_ret2
              exact ⟨L, G, a, 0, 3, _, rfl, HR.out, .inr ⟨rfl, .inl ⟨⟨x, List.mem_of_getElem? Hd.out, HBg.out⟩, rfl⟩⟩, HM.out.keep, fun _ => rfl, fun h => (by cases h)⟩
            · have HBg : Hid (badW x = true) := by show _ = _; unfold badW; rw [decide_eq_true_eq]; exact .inr h2
              go_wp2_with (first | ((with_reducible refine at_load 54 ?_); refine St.wl_load tyW rfl rfl rfl Rd.out (we_len x) ?_; simp only [Act.put, List.setIfInBounds_toArray, List.set_cons_zero, List.set_cons_succ]) | ((with_reducible refine at_alloc 54 ?_); refine St.wl_alloc tyW rfl rfl Hob.out ?_; simp only [Act.put, List.setIfInBounds_toArray, List.set_cons_zero, List.set_cons_succ]) | ((with_reducible refine at_store 54 ?_); refine St.wl_storeN (W := wr) tyW rfl rfl rfl rfl rfl Hob.out (show _ = Value.agg (we x).toArray from rfl) (we_sz _) rfl (encW.all _) ?_))
              go_ret2
              exact ⟨L, G, a, 0, 3, _, rfl, HR.out, .inr ⟨rfl, .inl ⟨⟨x, List.mem_of_getElem? Hd.out, HBg.out⟩, rfl⟩⟩, HM.out.keep, fun _ => rfl, fun h => (by cases h)⟩
            · have HBg : Hid (badW x = false) := by show _ = _; unfold badW; rw [decide_eq_false_iff_not]; omega
              have HDg : Hid (∀ p : Bool, (decide (x.u ∈ addGs [] G) = p) ↔ (p = true ↔ x.u ∈ G)) := fun p => by
                have : x.u ∈ addGs [] G ↔ x.u ∈ G := by rw [mem_addGs]; simp
                rw [← this]
                cases p <;> simp
              by_cases h0 : i = 0
              · subst h0
                by_cases hm : x.u ∈ G
                · have HL : Hid (decide (x.u ∈ addGs [] G) = true) := (HDg.out true).2 ⟨fun _ => hm, fun _ => rfl⟩
                  have HI2 : Hid (LwI s L G a (0 + 1) 4 (addW Lm x)) := HI.out.bad Hd.out HBg.out (fun hf => hf.2.2.2 x (List.mem_of_getElem? Hd.out) hm)
                  clear hm
                  go_wp2_with (first | ((with_reducible refine at_load 54 ?_); refine St.wl_load tyW rfl rfl rfl Rd.out (we_len x) ?_; simp only [Act.put, List.setIfInBounds_toArray, List.set_cons_zero, List.set_cons_succ]) | ((with_reducible refine at_alloc 54 ?_); refine St.wl_alloc tyW rfl rfl Hob.out ?_; simp only [Act.put, List.setIfInBounds_toArray, List.set_cons_zero, List.set_cons_succ]) | ((with_reducible refine at_store 54 ?_); refine St.wl_storeN (W := wr) tyW rfl rfl rfl rfl rfl Hob.out (show _ = Value.agg (we x).toArray from rfl) (we_sz _) rfl (encW.all _) ?_))
                  have HM : Hid _ := HM.out.drew
                  have c1 := (show MuAt _ b bl bo Lm (addGs [] G) from HM.out.get 3 rfl).cells.2
                  have RX : Hid _ := HM.out.range 4 rfl
                  have RY : Hid _ := HM.out.range 4 rfl
                  have RU : Hid _ := rng_wu (HM.out.range 4 rfl)
                  refine Txt.wp_region_text (fun _ => True) [0, 0, 0, 0, 0, 0, 0, 1, 1, 4, 0, 0, 0, 0, 0, 0, 1, 0, 1, 1, 0] (by kernel_rfl) (by kernel_rfl) trivial ?_
                  (repeat (first | ((with_reducible refine at_dt 65 ?_); refine Txt.tl_pure (v := .int .i64 ((i - 1 : Nat) : Int)) (by rfl) ?_ ?_; (focus (intro _; go_simp; try exact hwr)); simp only [Act.put, List.setIfInBounds_toArray, List.set_cons_zero, List.set_cons_succ]) | (refine Txt.tl_pure (v := ?_) (by rfl) ?_ ?_; rotate_left; (focus (intro _; go_simp; try with_reducible rfl)); simp only [Act.put, List.setIfInBounds_toArray, List.set_cons_zero, List.set_cons_succ]) | (refine Txt.tl_skip (by rfl) trivial ?_; simp only [Act.put, List.setIfInBounds_toArray, List.set_cons_zero, List.set_cons_succ]) | (refine Txt.tl_load (v := ?_) (by rfl) (by rfl) (by rfl) (by kernel_rfl) ?_ ?_; rotate_left; (focus assumption); simp only [Act.put, List.setIfInBounds_toArray, List.set_cons_zero, List.set_cons_succ]) | (refine Txt.tl_rowN (n := 34) (ty := 54) (by rfl) (by rfl) (by rfl) RY.out (by kernel_rfl) (we_len _) ?_; simp only [Act.put, List.setIfInBounds_toArray, List.set_cons_zero, List.set_cons_succ]) | (refine Txt.tl_rowN (n := 34) (ty := 54) (by rfl) (by rfl) (by rfl) RX.out (by kernel_rfl) (we_len _) ?_; simp only [Act.put, List.setIfInBounds_toArray, List.set_cons_zero, List.set_cons_succ]) | (refine Txt.tl_rowN (n := 32) (ty := 38) (by rfl) (by rfl) (by rfl) RU.out (by kernel_rfl) (by rw [List.length_map]; exact HU.out) ?_; simp only [Act.put, List.setIfInBounds_toArray, List.set_cons_zero, List.set_cons_succ])))
                  refine Mp.tl_look idKey Tryz.underlying49 (by rfl) rfl rfl ((show MuAt _ b bl bo Lm (addGs [] G) from HM.out.get 3 rfl).all.get 2 rfl) Sq.zeroB HU.out rfl (Sq.look_G (addGs [] G) x.u) ?_
                  simp only [Act.put, List.setIfInBounds_toArray, List.set_cons_zero, List.set_cons_succ]
                  rw [HL.out]
                  (repeat (first | ((with_reducible refine at_dt 65 ?_); refine Txt.tl_pure (v := .int .i64 ((i - 1 : Nat) : Int)) (by rfl) ?_ ?_; (focus (intro _; go_simp; try exact hwr)); simp only [Act.put, List.setIfInBounds_toArray, List.set_cons_zero, List.set_cons_succ]) | (refine Txt.tl_pure (v := ?_) (by rfl) ?_ ?_; rotate_left; (focus (intro _; go_simp; try with_reducible rfl)); simp only [Act.put, List.setIfInBounds_toArray, List.set_cons_zero, List.set_cons_succ]) | (refine Txt.tl_skip (by rfl) trivial ?_; simp only [Act.put, List.setIfInBounds_toArray, List.set_cons_zero, List.set_cons_succ]) | (refine Txt.tl_load (v := ?_) (by rfl) (by rfl) (by rfl) (by kernel_rfl) ?_ ?_; rotate_left; (focus assumption); simp only [Act.put, List.setIfInBounds_toArray, List.set_cons_zero, List.set_cons_succ]) | (refine Txt.tl_rowN (n := 34) (ty := 54) (by rfl) (by rfl) (by rfl) RY.out (by kernel_rfl) (we_len _) ?_; simp only [Act.put, List.setIfInBounds_toArray, List.set_cons_zero, List.set_cons_succ]) | (refine Txt.tl_rowN (n := 34) (ty := 54) (by rfl) (by rfl) (by rfl) RX.out (by kernel_rfl) (we_len _) ?_; simp only [Act.put, List.setIfInBounds_toArray, List.set_cons_zero, List.set_cons_succ]) | (refine Txt.tl_rowN (n := 32) (ty := 38) (by rfl) (by rfl) (by rfl) RU.out (by kernel_rfl) (by rw [List.length_map]; exact HU.out) ?_; simp only [Act.put, List.setIfInBounds_toArray, List.set_cons_zero, List.set_cons_succ])))
                  refine Txt.tl_nil ?_
                  clear c1 RX RY RU
                  go_wp2
                  have HM : Hid _ := HM.out.drew
                  have c0 := (show MuAt _ b bl bo Lm (addGs [] G) from HM.out.get 3 rfl).cells.1
                  have RX : Hid _ := HM.out.range 4 rfl
                  have RY : Hid _ := HM.out.range 4 rfl
                  have RU : Hid _ := rng_wu (HM.out.range 4 rfl)
                  refine Txt.wp_region_text (fun _ => True) [0, 0, 0, 1, 1, 4] (by kernel_rfl) (by kernel_rfl) trivial ?_
                  (repeat (first | ((with_reducible refine at_dt 65 ?_); refine Txt.tl_pure (v := .int .i64 ((i - 1 : Nat) : Int)) (by rfl) ?_ ?_; (focus (intro _; go_simp; try exact hwr)); simp only [Act.put, List.setIfInBounds_toArray, List.set_cons_zero, List.set_cons_succ]) | (refine Txt.tl_pure (v := ?_) (by rfl) ?_ ?_; rotate_left; (focus (intro _; go_simp; try with_reducible rfl)); simp only [Act.put, List.setIfInBounds_toArray, List.set_cons_zero, List.set_cons_succ]) | (refine Txt.tl_skip (by rfl) trivial ?_; simp only [Act.put, List.setIfInBounds_toArray, List.set_cons_zero, List.set_cons_succ]) | (refine Txt.tl_load (v := ?_) (by rfl) (by rfl) (by rfl) (by kernel_rfl) ?_ ?_; rotate_left; (focus assumption); simp only [Act.put, List.setIfInBounds_toArray, List.set_cons_zero, List.set_cons_succ]) | (refine Txt.tl_rowN (n := 34) (ty := 54) (by rfl) (by rfl) (by rfl) RY.out (by kernel_rfl) (we_len _) ?_; simp only [Act.put, List.setIfInBounds_toArray, List.set_cons_zero, List.set_cons_succ]) | (refine Txt.tl_rowN (n := 34) (ty := 54) (by rfl) (by rfl) (by rfl) RX.out (by kernel_rfl) (we_len _) ?_; simp only [Act.put, List.setIfInBounds_toArray, List.set_cons_zero, List.set_cons_succ]) | (refine Txt.tl_rowN (n := 32) (ty := 38) (by rfl) (by rfl) (by rfl) RU.out (by kernel_rfl) (by rw [List.length_map]; exact HU.out) ?_; simp only [Act.put, List.setIfInBounds_toArray, List.set_cons_zero, List.set_cons_succ])))
                  refine Txt.tl_loud (by rfl) ?_
                  refine Mp.wp_put wrKey Tryz.underlying48 rfl rfl ((show MuAt _ b bl bo Lm (addGs [] G) from HM.out.get 3 rfl).all.get 1 rfl) (k := x) trivial rfl (v := .bool true) rfl ?_
                  rw [put_dL]
                  intro w8 h8 k8
                  have HM : Hid _ := M.mto HM.out 3 rfl (MTo.of (M.setMap (show MuAt _ b bl bo Lm (addGs [] G) from HM.out.get 3 rfl).all 1 rfl h8 k8))
                  clear h8 k8 c0
                  refine ⟨trivial, ?_⟩
                  simp only [Act.put, List.setIfInBounds_toArray, List.set_cons_zero, List.set_cons_succ]
                  refine Txt.tl_nil ?_
                  go_wp2
                  go_roundw
                  case rel => exact ⟨0 + 1, 4, addW Lm x, by omega, by go_num, rfl, HM.out.take 4, HI2.out⟩
                  case measure => simp [intOf]; omega
                · have HL : Hid (decide (x.u ∈ addGs [] G) = false) := (HDg.out false).2 ⟨fun h => (by cases h), fun h => absurd h hm⟩
                  have HI2 : Hid (LwI s L G a (0 + 1) e (addW Lm x)) := HI.out.good Hd.out HBg.out hm (.inl rfl)
                  clear hm
                  go_wp2_with (first | ((with_reducible refine at_load 54 ?_); refine St.wl_load tyW rfl rfl rfl Rd.out (we_len x) ?_; simp only [Act.put, List.setIfInBounds_toArray, List.set_cons_zero, List.set_cons_succ]) | ((with_reducible refine at_alloc 54 ?_); refine St.wl_alloc tyW rfl rfl Hob.out ?_; simp only [Act.put, List.setIfInBounds_toArray, List.set_cons_zero, List.set_cons_succ]) | ((with_reducible refine at_store 54 ?_); refine St.wl_storeN (W := wr) tyW rfl rfl rfl rfl rfl Hob.out (show _ = Value.agg (we x).toArray from rfl) (we_sz _) rfl (encW.all _) ?_))
                  have HM : Hid _ := HM.out.drew
                  have c1 := (show MuAt _ b bl bo Lm (addGs [] G) from HM.out.get 3 rfl).cells.2
                  have RX : Hid _ := HM.out.range 4 rfl
                  have RY : Hid _ := HM.out.range 4 rfl
                  have RU : Hid _ := rng_wu (HM.out.range 4 rfl)
                  refine Txt.wp_region_text (fun _ => True) [0, 0, 0, 0, 0, 0, 0, 1, 1, 4, 0, 0, 0, 0, 0, 0, 1, 0, 1, 1, 0] (by kernel_rfl) (by kernel_rfl) trivial ?_
                  (repeat (first | ((with_reducible refine at_dt 65 ?_); refine Txt.tl_pure (v := .int .i64 ((i - 1 : Nat) : Int)) (by rfl) ?_ ?_; (focus (intro _; go_simp; try exact hwr)); simp only [Act.put, List.setIfInBounds_toArray, List.set_cons_zero, List.set_cons_succ]) | (refine Txt.tl_pure (v := ?_) (by rfl) ?_ ?_; rotate_left; (focus (intro _; go_simp; try with_reducible rfl)); simp only [Act.put, List.setIfInBounds_toArray, List.set_cons_zero, List.set_cons_succ]) | (refine Txt.tl_skip (by rfl) trivial ?_; simp only [Act.put, List.setIfInBounds_toArray, List.set_cons_zero, List.set_cons_succ]) | (refine Txt.tl_load (v := ?_) (by rfl) (by rfl) (by rfl) (by kernel_rfl) ?_ ?_; rotate_left; (focus assumption); simp only [Act.put, List.setIfInBounds_toArray, List.set_cons_zero, List.set_cons_succ]) | (refine Txt.tl_rowN (n := 34) (ty := 54) (by rfl) (by rfl) (by rfl) RY.out (by kernel_rfl) (we_len _) ?_; simp only [Act.put, List.setIfInBounds_toArray, List.set_cons_zero, List.set_cons_succ]) | (refine Txt.tl_rowN (n := 34) (ty := 54) (by rfl) (by rfl) (by rfl) RX.out (by kernel_rfl) (we_len _) ?_; simp only [Act.put, List.setIfInBounds_toArray, List.set_cons_zero, List.set_cons_succ]) | (refine Txt.tl_rowN (n := 32) (ty := 38) (by rfl) (by rfl) (by rfl) RU.out (by kernel_rfl) (by rw [List.length_map]; exact HU.out) ?_; simp only [Act.put, List.setIfInBounds_toArray, List.set_cons_zero, List.set_cons_succ])))
                  refine Mp.tl_look idKey Tryz.underlying49 (by rfl) rfl rfl ((show MuAt _ b bl bo Lm (addGs [] G) from HM.out.get 3 rfl).all.get 2 rfl) Sq.zeroB HU.out rfl (Sq.look_G (addGs [] G) x.u) ?_
                  simp only [Act.put, List.setIfInBounds_toArray, List.set_cons_zero, List.set_cons_succ]
                  rw [HL.out]
                  (repeat (first | ((with_reducible refine at_dt 65 ?_); refine Txt.tl_pure (v := .int .i64 ((i - 1 : Nat) : Int)) (by rfl) ?_ ?_; (focus (intro _; go_simp; try exact hwr)); simp only [Act.put, List.setIfInBounds_toArray, List.set_cons_zero, List.set_cons_succ]) | (refine Txt.tl_pure (v := ?_) (by rfl) ?_ ?_; rotate_left; (focus (intro _; go_simp; try with_reducible rfl)); simp only [Act.put, List.setIfInBounds_toArray, List.set_cons_zero, List.set_cons_succ]) | (refine Txt.tl_skip (by rfl) trivial ?_; simp only [Act.put, List.setIfInBounds_toArray, List.set_cons_zero, List.set_cons_succ]) | (refine Txt.tl_load (v := ?_) (by rfl) (by rfl) (by rfl) (by kernel_rfl) ?_ ?_; rotate_left; (focus assumption); simp only [Act.put, List.setIfInBounds_toArray, List.set_cons_zero, List.set_cons_succ]) | (refine Txt.tl_rowN (n := 34) (ty := 54) (by rfl) (by rfl) (by rfl) RY.out (by kernel_rfl) (we_len _) ?_; simp only [Act.put, List.setIfInBounds_toArray, List.set_cons_zero, List.set_cons_succ]) | (refine Txt.tl_rowN (n := 34) (ty := 54) (by rfl) (by rfl) (by rfl) RX.out (by kernel_rfl) (we_len _) ?_; simp only [Act.put, List.setIfInBounds_toArray, List.set_cons_zero, List.set_cons_succ]) | (refine Txt.tl_rowN (n := 32) (ty := 38) (by rfl) (by rfl) (by rfl) RU.out (by kernel_rfl) (by rw [List.length_map]; exact HU.out) ?_; simp only [Act.put, List.setIfInBounds_toArray, List.set_cons_zero, List.set_cons_succ])))
                  refine Txt.tl_nil ?_
                  clear c1 RX RY RU
                  go_wp2
                  have HM : Hid _ := HM.out.drew
                  have c0 := (show MuAt _ b bl bo Lm (addGs [] G) from HM.out.get 3 rfl).cells.1
                  have RX : Hid _ := HM.out.range 4 rfl
                  have RY : Hid _ := HM.out.range 4 rfl
                  have RU : Hid _ := rng_wu (HM.out.range 4 rfl)
                  refine Txt.wp_region_text (fun _ => True) [0, 0, 0, 1, 1, 4] (by kernel_rfl) (by kernel_rfl) trivial ?_
                  (repeat (first | ((with_reducible refine at_dt 65 ?_); refine Txt.tl_pure (v := .int .i64 ((i - 1 : Nat) : Int)) (by rfl) ?_ ?_; (focus (intro _; go_simp; try exact hwr)); simp only [Act.put, List.setIfInBounds_toArray, List.set_cons_zero, List.set_cons_succ]) | (refine Txt.tl_pure (v := ?_) (by rfl) ?_ ?_; rotate_left; (focus (intro _; go_simp; try with_reducible rfl)); simp only [Act.put, List.setIfInBounds_toArray, List.set_cons_zero, List.set_cons_succ]) | (refine Txt.tl_skip (by rfl) trivial ?_; simp only [Act.put, List.setIfInBounds_toArray, List.set_cons_zero, List.set_cons_succ]) | (refine Txt.tl_load (v := ?_) (by rfl) (by rfl) (by rfl) (by kernel_rfl) ?_ ?_; rotate_left; (focus assumption); simp only [Act.put, List.setIfInBounds_toArray, List.set_cons_zero, List.set_cons_succ]) | (refine Txt.tl_rowN (n := 34) (ty := 54) (by rfl) (by rfl) (by rfl) RY.out (by kernel_rfl) (we_len _) ?_; simp only [Act.put, List.setIfInBounds_toArray, List.set_cons_zero, List.set_cons_succ]) | (refine Txt.tl_rowN (n := 34) (ty := 54) (by rfl) (by rfl) (by rfl) RX.out (by kernel_rfl) (we_len _) ?_; simp only [Act.put, List.setIfInBounds_toArray, List.set_cons_zero, List.set_cons_succ]) | (refine Txt.tl_rowN (n := 32) (ty := 38) (by rfl) (by rfl) (by rfl) RU.out (by kernel_rfl) (by rw [List.length_map]; exact HU.out) ?_; simp only [Act.put, List.setIfInBounds_toArray, List.set_cons_zero, List.set_cons_succ])))
                  refine Txt.tl_loud (by rfl) ?_
                  refine Mp.wp_put wrKey Tryz.underlying48 rfl rfl ((show MuAt _ b bl bo Lm (addGs [] G) from HM.out.get 3 rfl).all.get 1 rfl) (k := x) trivial rfl (v := .bool true) rfl ?_
                  rw [put_dL]
                  intro w8 h8 k8
                  have HM : Hid _ := M.mto HM.out 3 rfl (MTo.of (M.setMap (show MuAt _ b bl bo Lm (addGs [] G) from HM.out.get 3 rfl).all 1 rfl h8 k8))
                  clear h8 k8 c0
                  refine ⟨trivial, ?_⟩
                  simp only [Act.put, List.setIfInBounds_toArray, List.set_cons_zero, List.set_cons_succ]
                  refine Txt.tl_nil ?_
                  go_wp2
                  go_roundw
                  case rel => exact ⟨0 + 1, e, addW Lm x, by omega, by go_num, rfl, HM.out.take 4, HI2.out⟩
                  case measure => simp [intOf]; omega
              · obtain ⟨y, hy⟩ : ∃ y, L[i - 1]? = some y := ⟨_, List.getElem?_eq_getElem (by rw [Hq.out]; omega)⟩
                have Hy : Hid (L[i - 1]? = some y) := hy
                obtain ⟨c, hc⟩ : ∃ c, cmpW y x = c := ⟨_, rfl⟩
                have HC : Hid (∀ w, Calls Tryz.prog 19 #[wv y, wv x] w fun e w' => e = .returned (.int .i64 c) ∧ Keep (fun _ => False) w w') := fun w => by
                  have := order_any w y x
                  rw [hc] at this
                  exact this.mono fun e w' h => ⟨h.1, h.2.keep⟩
                have hi0 : 0 < i := by omega
                have hi1 : (0 : Int) < (i : Int) := by omega
                have hwr : IntKind.i64.wrap ((i : Int) - 1) = ((i - 1 : Nat) : Int) := by rw [IntKind.wrap_i64]; omega
                have hiq : i - 1 < q := by omega
                by_cases hcn : c < 0
                · have hlt2 : ltW y x := (ltW_iff y x).1 (by rw [hc]; exact hcn)
                  have HLt : Hid (ltW y x) := hlt2
                  have HGe : Hid (decide (0 ≤ c) = false) := decide_eq_false (by omega)
                  clear hy hc hlt2
                  by_cases hm : x.u ∈ G
                  · have HL : Hid (decide (x.u ∈ addGs [] G) = true) := (HDg.out true).2 ⟨fun _ => hm, fun _ => rfl⟩
                    have HI2 : Hid (LwI s L G a (i + 1) 4 (addW Lm x)) := HI.out.bad Hd.out HBg.out (fun hf => hf.2.2.2 x (List.mem_of_getElem? Hd.out) hm)
                    clear hm
                    go_wp2_with (first | ((with_reducible refine at_load 54 ?_); refine St.wl_load tyW rfl rfl rfl Rd.out (we_len x) ?_; simp only [Act.put, List.setIfInBounds_toArray, List.set_cons_zero, List.set_cons_succ]) | ((with_reducible refine at_alloc 54 ?_); refine St.wl_alloc tyW rfl rfl Hob.out ?_; simp only [Act.put, List.setIfInBounds_toArray, List.set_cons_zero, List.set_cons_succ]) | ((with_reducible refine at_store 54 ?_); refine St.wl_storeN (W := wr) tyW rfl rfl rfl rfl rfl Hob.out (show _ = Value.agg (we x).toArray from rfl) (we_sz _) rfl (encW.all _) ?_))
                    have HM : Hid _ := HM.out.drew
                    have c1 := (show MuAt _ b bl bo Lm (addGs [] G) from HM.out.get 3 rfl).cells.2
                    have RX : Hid _ := HM.out.range 4 rfl
                    have RY : Hid _ := HM.out.range 4 rfl
                    have RU : Hid _ := rng_wu (HM.out.range 4 rfl)
                    have RZ := (St.Own.slice (show St.Own 54 34 we _ (.slice (some ⟨g0, o0, none⟩) q lc) L from HM.out.get 1 rfl)).2.lay.resolve_left (by rw [Hq.out]; omega) |> fun ⟨_, _, e, _, hr⟩ => (by cases e; exact hr (i - 1) y Hy.out : World.rangeAt _ g0 (o0 + (i - 1) * 34) (we y))
                    have RY : Hid _ := RZ
                    clear RZ
                    refine Txt.wp_region_text (fun _ => True) [0, 0, 0, 0, 0, 0, 0, 1, 1, 4, 0, 0, 0, 0, 0, 0, 1, 0, 1, 1, 0] (by kernel_rfl) (by kernel_rfl) trivial ?_
                    (repeat (first | ((with_reducible refine at_dt 65 ?_); refine Txt.tl_pure (v := .int .i64 ((i - 1 : Nat) : Int)) (by rfl) ?_ ?_; (focus (intro _; go_simp; try exact hwr)); simp only [Act.put, List.setIfInBounds_toArray, List.set_cons_zero, List.set_cons_succ]) | (refine Txt.tl_pure (v := ?_) (by rfl) ?_ ?_; rotate_left; (focus (intro _; go_simp; try with_reducible rfl)); simp only [Act.put, List.setIfInBounds_toArray, List.set_cons_zero, List.set_cons_succ]) | (refine Txt.tl_skip (by rfl) trivial ?_; simp only [Act.put, List.setIfInBounds_toArray, List.set_cons_zero, List.set_cons_succ]) | (refine Txt.tl_load (v := ?_) (by rfl) (by rfl) (by rfl) (by kernel_rfl) ?_ ?_; rotate_left; (focus assumption); simp only [Act.put, List.setIfInBounds_toArray, List.set_cons_zero, List.set_cons_succ]) | (refine Txt.tl_rowN (n := 34) (ty := 54) (by rfl) (by rfl) (by rfl) RY.out (by kernel_rfl) (we_len _) ?_; simp only [Act.put, List.setIfInBounds_toArray, List.set_cons_zero, List.set_cons_succ]) | (refine Txt.tl_rowN (n := 34) (ty := 54) (by rfl) (by rfl) (by rfl) RX.out (by kernel_rfl) (we_len _) ?_; simp only [Act.put, List.setIfInBounds_toArray, List.set_cons_zero, List.set_cons_succ]) | (refine Txt.tl_rowN (n := 32) (ty := 38) (by rfl) (by rfl) (by rfl) RU.out (by kernel_rfl) (by rw [List.length_map]; exact HU.out) ?_; simp only [Act.put, List.setIfInBounds_toArray, List.set_cons_zero, List.set_cons_succ])))
                    refine Txt.tl_call Tryz.func19 (by kernel_rfl) (by kernel_rfl) (by rfl) (by rfl) (by rfl) (HC.out _) ?_
                    rintro e w7 ⟨rfl, k7⟩
                    have HM : Hid _ := HM.out.calm k7
                    clear k7
                    have c1 := (show MuAt _ b bl bo Lm (addGs [] G) from HM.out.get 3 rfl).cells.2
                    have RX : Hid _ := HM.out.range 4 rfl
                    have RU : Hid _ := rng_wu (HM.out.range 4 rfl)
                    refine ⟨_, rfl, trivial, ?_⟩
                    simp only [Act.put, List.setIfInBounds_toArray, List.set_cons_zero, List.set_cons_succ]
                    (repeat (first | ((with_reducible refine at_dt 65 ?_); refine Txt.tl_pure (v := .int .i64 ((i - 1 : Nat) : Int)) (by rfl) ?_ ?_; (focus (intro _; go_simp; try exact hwr)); simp only [Act.put, List.setIfInBounds_toArray, List.set_cons_zero, List.set_cons_succ]) | (refine Txt.tl_pure (v := ?_) (by rfl) ?_ ?_; rotate_left; (focus (intro _; go_simp; try with_reducible rfl)); simp only [Act.put, List.setIfInBounds_toArray, List.set_cons_zero, List.set_cons_succ]) | (refine Txt.tl_skip (by rfl) trivial ?_; simp only [Act.put, List.setIfInBounds_toArray, List.set_cons_zero, List.set_cons_succ]) | (refine Txt.tl_load (v := ?_) (by rfl) (by rfl) (by rfl) (by kernel_rfl) ?_ ?_; rotate_left; (focus assumption); simp only [Act.put, List.setIfInBounds_toArray, List.set_cons_zero, List.set_cons_succ]) | (refine Txt.tl_rowN (n := 34) (ty := 54) (by rfl) (by rfl) (by rfl) RY.out (by kernel_rfl) (we_len _) ?_; simp only [Act.put, List.setIfInBounds_toArray, List.set_cons_zero, List.set_cons_succ]) | (refine Txt.tl_rowN (n := 34) (ty := 54) (by rfl) (by rfl) (by rfl) RX.out (by kernel_rfl) (we_len _) ?_; simp only [Act.put, List.setIfInBounds_toArray, List.set_cons_zero, List.set_cons_succ]) | (refine Txt.tl_rowN (n := 32) (ty := 38) (by rfl) (by rfl) (by rfl) RU.out (by kernel_rfl) (by rw [List.length_map]; exact HU.out) ?_; simp only [Act.put, List.setIfInBounds_toArray, List.set_cons_zero, List.set_cons_succ])))
                    rw [HGe.out]
                    (repeat (first | ((with_reducible refine at_dt 65 ?_); refine Txt.tl_pure (v := .int .i64 ((i - 1 : Nat) : Int)) (by rfl) ?_ ?_; (focus (intro _; go_simp; try exact hwr)); simp only [Act.put, List.setIfInBounds_toArray, List.set_cons_zero, List.set_cons_succ]) | (refine Txt.tl_pure (v := ?_) (by rfl) ?_ ?_; rotate_left; (focus (intro _; go_simp; try with_reducible rfl)); simp only [Act.put, List.setIfInBounds_toArray, List.set_cons_zero, List.set_cons_succ]) | (refine Txt.tl_skip (by rfl) trivial ?_; simp only [Act.put, List.setIfInBounds_toArray, List.set_cons_zero, List.set_cons_succ]) | (refine Txt.tl_load (v := ?_) (by rfl) (by rfl) (by rfl) (by kernel_rfl) ?_ ?_; rotate_left; (focus assumption); simp only [Act.put, List.setIfInBounds_toArray, List.set_cons_zero, List.set_cons_succ]) | (refine Txt.tl_rowN (n := 34) (ty := 54) (by rfl) (by rfl) (by rfl) RY.out (by kernel_rfl) (we_len _) ?_; simp only [Act.put, List.setIfInBounds_toArray, List.set_cons_zero, List.set_cons_succ]) | (refine Txt.tl_rowN (n := 34) (ty := 54) (by rfl) (by rfl) (by rfl) RX.out (by kernel_rfl) (we_len _) ?_; simp only [Act.put, List.setIfInBounds_toArray, List.set_cons_zero, List.set_cons_succ]) | (refine Txt.tl_rowN (n := 32) (ty := 38) (by rfl) (by rfl) (by rfl) RU.out (by kernel_rfl) (by rw [List.length_map]; exact HU.out) ?_; simp only [Act.put, List.setIfInBounds_toArray, List.set_cons_zero, List.set_cons_succ])))
                    refine Mp.tl_look idKey Tryz.underlying49 (by rfl) rfl rfl ((show MuAt _ b bl bo Lm (addGs [] G) from HM.out.get 3 rfl).all.get 2 rfl) Sq.zeroB HU.out rfl (Sq.look_G (addGs [] G) x.u) ?_
                    simp only [Act.put, List.setIfInBounds_toArray, List.set_cons_zero, List.set_cons_succ]
                    rw [HL.out]
                    (repeat (first | ((with_reducible refine at_dt 65 ?_); refine Txt.tl_pure (v := .int .i64 ((i - 1 : Nat) : Int)) (by rfl) ?_ ?_; (focus (intro _; go_simp; try exact hwr)); simp only [Act.put, List.setIfInBounds_toArray, List.set_cons_zero, List.set_cons_succ]) | (refine Txt.tl_pure (v := ?_) (by rfl) ?_ ?_; rotate_left; (focus (intro _; go_simp; try with_reducible rfl)); simp only [Act.put, List.setIfInBounds_toArray, List.set_cons_zero, List.set_cons_succ]) | (refine Txt.tl_skip (by rfl) trivial ?_; simp only [Act.put, List.setIfInBounds_toArray, List.set_cons_zero, List.set_cons_succ]) | (refine Txt.tl_load (v := ?_) (by rfl) (by rfl) (by rfl) (by kernel_rfl) ?_ ?_; rotate_left; (focus assumption); simp only [Act.put, List.setIfInBounds_toArray, List.set_cons_zero, List.set_cons_succ]) | (refine Txt.tl_rowN (n := 34) (ty := 54) (by rfl) (by rfl) (by rfl) RY.out (by kernel_rfl) (we_len _) ?_; simp only [Act.put, List.setIfInBounds_toArray, List.set_cons_zero, List.set_cons_succ]) | (refine Txt.tl_rowN (n := 34) (ty := 54) (by rfl) (by rfl) (by rfl) RX.out (by kernel_rfl) (we_len _) ?_; simp only [Act.put, List.setIfInBounds_toArray, List.set_cons_zero, List.set_cons_succ]) | (refine Txt.tl_rowN (n := 32) (ty := 38) (by rfl) (by rfl) (by rfl) RU.out (by kernel_rfl) (by rw [List.length_map]; exact HU.out) ?_; simp only [Act.put, List.setIfInBounds_toArray, List.set_cons_zero, List.set_cons_succ])))
                    refine Txt.tl_nil ?_
                    clear c1 RX RY RU
                    go_wp2
                    have HM : Hid _ := HM.out.drew
                    have c0 := (show MuAt _ b bl bo Lm (addGs [] G) from HM.out.get 3 rfl).cells.1
                    have RX : Hid _ := HM.out.range 4 rfl
                    have RY : Hid _ := HM.out.range 4 rfl
                    have RU : Hid _ := rng_wu (HM.out.range 4 rfl)
                    refine Txt.wp_region_text (fun _ => True) [0, 0, 0, 1, 1, 4] (by kernel_rfl) (by kernel_rfl) trivial ?_
                    (repeat (first | ((with_reducible refine at_dt 65 ?_); refine Txt.tl_pure (v := .int .i64 ((i - 1 : Nat) : Int)) (by rfl) ?_ ?_; (focus (intro _; go_simp; try exact hwr)); simp only [Act.put, List.setIfInBounds_toArray, List.set_cons_zero, List.set_cons_succ]) | (refine Txt.tl_pure (v := ?_) (by rfl) ?_ ?_; rotate_left; (focus (intro _; go_simp; try with_reducible rfl)); simp only [Act.put, List.setIfInBounds_toArray, List.set_cons_zero, List.set_cons_succ]) | (refine Txt.tl_skip (by rfl) trivial ?_; simp only [Act.put, List.setIfInBounds_toArray, List.set_cons_zero, List.set_cons_succ]) | (refine Txt.tl_load (v := ?_) (by rfl) (by rfl) (by rfl) (by kernel_rfl) ?_ ?_; rotate_left; (focus assumption); simp only [Act.put, List.setIfInBounds_toArray, List.set_cons_zero, List.set_cons_succ]) | (refine Txt.tl_rowN (n := 34) (ty := 54) (by rfl) (by rfl) (by rfl) RY.out (by kernel_rfl) (we_len _) ?_; simp only [Act.put, List.setIfInBounds_toArray, List.set_cons_zero, List.set_cons_succ]) | (refine Txt.tl_rowN (n := 34) (ty := 54) (by rfl) (by rfl) (by rfl) RX.out (by kernel_rfl) (we_len _) ?_; simp only [Act.put, List.setIfInBounds_toArray, List.set_cons_zero, List.set_cons_succ]) | (refine Txt.tl_rowN (n := 32) (ty := 38) (by rfl) (by rfl) (by rfl) RU.out (by kernel_rfl) (by rw [List.length_map]; exact HU.out) ?_; simp only [Act.put, List.setIfInBounds_toArray, List.set_cons_zero, List.set_cons_succ])))
                    refine Txt.tl_loud (by rfl) ?_
                    refine Mp.wp_put wrKey Tryz.underlying48 rfl rfl ((show MuAt _ b bl bo Lm (addGs [] G) from HM.out.get 3 rfl).all.get 1 rfl) (k := x) trivial rfl (v := .bool true) rfl ?_
                    rw [put_dL]
                    intro w8 h8 k8
                    have HM : Hid _ := M.mto HM.out 3 rfl (MTo.of (M.setMap (show MuAt _ b bl bo Lm (addGs [] G) from HM.out.get 3 rfl).all 1 rfl h8 k8))
                    clear h8 k8 c0
                    refine ⟨trivial, ?_⟩
                    simp only [Act.put, List.setIfInBounds_toArray, List.set_cons_zero, List.set_cons_succ]
                    refine Txt.tl_nil ?_
                    go_wp2
                    go_roundw
                    case rel => exact ⟨i + 1, 4, addW Lm x, by omega, by go_num, rfl, HM.out.take 4, HI2.out⟩
                    case measure => simp [intOf]; omega
                  · have HL : Hid (decide (x.u ∈ addGs [] G) = false) := (HDg.out false).2 ⟨fun h => (by cases h), fun h => absurd h hm⟩
                    have HI2 : Hid (LwI s L G a (i + 1) e (addW Lm x)) := HI.out.good Hd.out HBg.out hm (.inr ⟨y, Hy.out, HLt.out⟩)
                    clear hm
                    go_wp2_with (first | ((with_reducible refine at_load 54 ?_); refine St.wl_load tyW rfl rfl rfl Rd.out (we_len x) ?_; simp only [Act.put, List.setIfInBounds_toArray, List.set_cons_zero, List.set_cons_succ]) | ((with_reducible refine at_alloc 54 ?_); refine St.wl_alloc tyW rfl rfl Hob.out ?_; simp only [Act.put, List.setIfInBounds_toArray, List.set_cons_zero, List.set_cons_succ]) | ((with_reducible refine at_store 54 ?_); refine St.wl_storeN (W := wr) tyW rfl rfl rfl rfl rfl Hob.out (show _ = Value.agg (we x).toArray from rfl) (we_sz _) rfl (encW.all _) ?_))
                    have HM : Hid _ := HM.out.drew
                    have c1 := (show MuAt _ b bl bo Lm (addGs [] G) from HM.out.get 3 rfl).cells.2
                    have RX : Hid _ := HM.out.range 4 rfl
                    have RY : Hid _ := HM.out.range 4 rfl
                    have RU : Hid _ := rng_wu (HM.out.range 4 rfl)
                    have RZ := (St.Own.slice (show St.Own 54 34 we _ (.slice (some ⟨g0, o0, none⟩) q lc) L from HM.out.get 1 rfl)).2.lay.resolve_left (by rw [Hq.out]; omega) |> fun ⟨_, _, e, _, hr⟩ => (by cases e; exact hr (i - 1) y Hy.out : World.rangeAt _ g0 (o0 + (i - 1) * 34) (we y))
                    have RY : Hid _ := RZ
                    clear RZ
                    refine Txt.wp_region_text (fun _ => True) [0, 0, 0, 0, 0, 0, 0, 1, 1, 4, 0, 0, 0, 0, 0, 0, 1, 0, 1, 1, 0] (by kernel_rfl) (by kernel_rfl) trivial ?_
                    (repeat (first | ((with_reducible refine at_dt 65 ?_); refine Txt.tl_pure (v := .int .i64 ((i - 1 : Nat) : Int)) (by rfl) ?_ ?_; (focus (intro _; go_simp; try exact hwr)); simp only [Act.put, List.setIfInBounds_toArray, List.set_cons_zero, List.set_cons_succ]) | (refine Txt.tl_pure (v := ?_) (by rfl) ?_ ?_; rotate_left; (focus (intro _; go_simp; try with_reducible rfl)); simp only [Act.put, List.setIfInBounds_toArray, List.set_cons_zero, List.set_cons_succ]) | (refine Txt.tl_skip (by rfl) trivial ?_; simp only [Act.put, List.setIfInBounds_toArray, List.set_cons_zero, List.set_cons_succ]) | (refine Txt.tl_load (v := ?_) (by rfl) (by rfl) (by rfl) (by kernel_rfl) ?_ ?_; rotate_left; (focus assumption); simp only [Act.put, List.setIfInBounds_toArray, List.set_cons_zero, List.set_cons_succ]) | (refine Txt.tl_rowN (n := 34) (ty := 54) (by rfl) (by rfl) (by rfl) RY.out (by kernel_rfl) (we_len _) ?_; simp only [Act.put, List.setIfInBounds_toArray, List.set_cons_zero, List.set_cons_succ]) | (refine Txt.tl_rowN (n := 34) (ty := 54) (by rfl) (by rfl) (by rfl) RX.out (by kernel_rfl) (we_len _) ?_; simp only [Act.put, List.setIfInBounds_toArray, List.set_cons_zero, List.set_cons_succ]) | (refine Txt.tl_rowN (n := 32) (ty := 38) (by rfl) (by rfl) (by rfl) RU.out (by kernel_rfl) (by rw [List.length_map]; exact HU.out) ?_; simp only [Act.put, List.setIfInBounds_toArray, List.set_cons_zero, List.set_cons_succ])))
                    refine Txt.tl_call Tryz.func19 (by kernel_rfl) (by kernel_rfl) (by rfl) (by rfl) (by rfl) (HC.out _) ?_
                    rintro e w7 ⟨rfl, k7⟩
                    have HM : Hid _ := HM.out.calm k7
                    clear k7
                    have c1 := (show MuAt _ b bl bo Lm (addGs [] G) from HM.out.get 3 rfl).cells.2
                    have RX : Hid _ := HM.out.range 4 rfl
                    have RU : Hid _ := rng_wu (HM.out.range 4 rfl)
                    refine ⟨_, rfl, trivial, ?_⟩
                    simp only [Act.put, List.setIfInBounds_toArray, List.set_cons_zero, List.set_cons_succ]
                    (repeat (first | ((with_reducible refine at_dt 65 ?_); refine Txt.tl_pure (v := .int .i64 ((i - 1 : Nat) : Int)) (by rfl) ?_ ?_; (focus (intro _; go_simp; try exact hwr)); simp only [Act.put, List.setIfInBounds_toArray, List.set_cons_zero, List.set_cons_succ]) | (refine Txt.tl_pure (v := ?_) (by rfl) ?_ ?_; rotate_left; (focus (intro _; go_simp; try with_reducible rfl)); simp only [Act.put, List.setIfInBounds_toArray, List.set_cons_zero, List.set_cons_succ]) | (refine Txt.tl_skip (by rfl) trivial ?_; simp only [Act.put, List.setIfInBounds_toArray, List.set_cons_zero, List.set_cons_succ]) | (refine Txt.tl_load (v := ?_) (by rfl) (by rfl) (by rfl) (by kernel_rfl) ?_ ?_; rotate_left; (focus assumption); simp only [Act.put, List.setIfInBounds_toArray, List.set_cons_zero, List.set_cons_succ]) | (refine Txt.tl_rowN (n := 34) (ty := 54) (by rfl) (by rfl) (by rfl) RY.out (by kernel_rfl) (we_len _) ?_; simp only [Act.put, List.setIfInBounds_toArray, List.set_cons_zero, List.set_cons_succ]) | (refine Txt.tl_rowN (n := 34) (ty := 54) (by rfl) (by rfl) (by rfl) RX.out (by kernel_rfl) (we_len _) ?_; simp only [Act.put, List.setIfInBounds_toArray, List.set_cons_zero, List.set_cons_succ]) | (refine Txt.tl_rowN (n := 32) (ty := 38) (by rfl) (by rfl) (by rfl) RU.out (by kernel_rfl) (by rw [List.length_map]; exact HU.out) ?_; simp only [Act.put, List.setIfInBounds_toArray, List.set_cons_zero, List.set_cons_succ])))
                    rw [HGe.out]
                    (repeat (first | ((with_reducible refine at_dt 65 ?_); refine Txt.tl_pure (v := .int .i64 ((i - 1 : Nat) : Int)) (by rfl) ?_ ?_; (focus (intro _; go_simp; try exact hwr)); simp only [Act.put, List.setIfInBounds_toArray, List.set_cons_zero, List.set_cons_succ]) | (refine Txt.tl_pure (v := ?_) (by rfl) ?_ ?_; rotate_left; (focus (intro _; go_simp; try with_reducible rfl)); simp only [Act.put, List.setIfInBounds_toArray, List.set_cons_zero, List.set_cons_succ]) | (refine Txt.tl_skip (by rfl) trivial ?_; simp only [Act.put, List.setIfInBounds_toArray, List.set_cons_zero, List.set_cons_succ]) | (refine Txt.tl_load (v := ?_) (by rfl) (by rfl) (by rfl) (by kernel_rfl) ?_ ?_; rotate_left; (focus assumption); simp only [Act.put, List.setIfInBounds_toArray, List.set_cons_zero, List.set_cons_succ]) | (refine Txt.tl_rowN (n := 34) (ty := 54) (by rfl) (by rfl) (by rfl) RY.out (by kernel_rfl) (we_len _) ?_; simp only [Act.put, List.setIfInBounds_toArray, List.set_cons_zero, List.set_cons_succ]) | (refine Txt.tl_rowN (n := 34) (ty := 54) (by rfl) (by rfl) (by rfl) RX.out (by kernel_rfl) (we_len _) ?_; simp only [Act.put, List.setIfInBounds_toArray, List.set_cons_zero, List.set_cons_succ]) | (refine Txt.tl_rowN (n := 32) (ty := 38) (by rfl) (by rfl) (by rfl) RU.out (by kernel_rfl) (by rw [List.length_map]; exact HU.out) ?_; simp only [Act.put, List.setIfInBounds_toArray, List.set_cons_zero, List.set_cons_succ])))
                    refine Mp.tl_look idKey Tryz.underlying49 (by rfl) rfl rfl ((show MuAt _ b bl bo Lm (addGs [] G) from HM.out.get 3 rfl).all.get 2 rfl) Sq.zeroB HU.out rfl (Sq.look_G (addGs [] G) x.u) ?_
                    simp only [Act.put, List.setIfInBounds_toArray, List.set_cons_zero, List.set_cons_succ]
                    rw [HL.out]
                    (repeat (first | ((with_reducible refine at_dt 65 ?_); refine Txt.tl_pure (v := .int .i64 ((i - 1 : Nat) : Int)) (by rfl) ?_ ?_; (focus (intro _; go_simp; try exact hwr)); simp only [Act.put, List.setIfInBounds_toArray, List.set_cons_zero, List.set_cons_succ]) | (refine Txt.tl_pure (v := ?_) (by rfl) ?_ ?_; rotate_left; (focus (intro _; go_simp; try with_reducible rfl)); simp only [Act.put, List.setIfInBounds_toArray, List.set_cons_zero, List.set_cons_succ]) | (refine Txt.tl_skip (by rfl) trivial ?_; simp only [Act.put, List.setIfInBounds_toArray, List.set_cons_zero, List.set_cons_succ]) | (refine Txt.tl_load (v := ?_) (by rfl) (by rfl) (by rfl) (by kernel_rfl) ?_ ?_; rotate_left; (focus assumption); simp only [Act.put, List.setIfInBounds_toArray, List.set_cons_zero, List.set_cons_succ]) | (refine Txt.tl_rowN (n := 34) (ty := 54) (by rfl) (by rfl) (by rfl) RY.out (by kernel_rfl) (we_len _) ?_; simp only [Act.put, List.setIfInBounds_toArray, List.set_cons_zero, List.set_cons_succ]) | (refine Txt.tl_rowN (n := 34) (ty := 54) (by rfl) (by rfl) (by rfl) RX.out (by kernel_rfl) (we_len _) ?_; simp only [Act.put, List.setIfInBounds_toArray, List.set_cons_zero, List.set_cons_succ]) | (refine Txt.tl_rowN (n := 32) (ty := 38) (by rfl) (by rfl) (by rfl) RU.out (by kernel_rfl) (by rw [List.length_map]; exact HU.out) ?_; simp only [Act.put, List.setIfInBounds_toArray, List.set_cons_zero, List.set_cons_succ])))
                    refine Txt.tl_nil ?_
                    clear c1 RX RY RU
                    go_wp2
                    have HM : Hid _ := HM.out.drew
                    have c0 := (show MuAt _ b bl bo Lm (addGs [] G) from HM.out.get 3 rfl).cells.1
                    have RX : Hid _ := HM.out.range 4 rfl
                    have RY : Hid _ := HM.out.range 4 rfl
                    have RU : Hid _ := rng_wu (HM.out.range 4 rfl)
                    refine Txt.wp_region_text (fun _ => True) [0, 0, 0, 1, 1, 4] (by kernel_rfl) (by kernel_rfl) trivial ?_
                    (repeat (first | ((with_reducible refine at_dt 65 ?_); refine Txt.tl_pure (v := .int .i64 ((i - 1 : Nat) : Int)) (by rfl) ?_ ?_; (focus (intro _; go_simp; try exact hwr)); simp only [Act.put, List.setIfInBounds_toArray, List.set_cons_zero, List.set_cons_succ]) | (refine Txt.tl_pure (v := ?_) (by rfl) ?_ ?_; rotate_left; (focus (intro _; go_simp; try with_reducible rfl)); simp only [Act.put, List.setIfInBounds_toArray, List.set_cons_zero, List.set_cons_succ]) | (refine Txt.tl_skip (by rfl) trivial ?_; simp only [Act.put, List.setIfInBounds_toArray, List.set_cons_zero, List.set_cons_succ]) | (refine Txt.tl_load (v := ?_) (by rfl) (by rfl) (by rfl) (by kernel_rfl) ?_ ?_; rotate_left; (focus assumption); simp only [Act.put, List.setIfInBounds_toArray, List.set_cons_zero, List.set_cons_succ]) | (refine Txt.tl_rowN (n := 34) (ty := 54) (by rfl) (by rfl) (by rfl) RY.out (by kernel_rfl) (we_len _) ?_; simp only [Act.put, List.setIfInBounds_toArray, List.set_cons_zero, List.set_cons_succ]) | (refine Txt.tl_rowN (n := 34) (ty := 54) (by rfl) (by rfl) (by rfl) RX.out (by kernel_rfl) (we_len _) ?_; simp only [Act.put, List.setIfInBounds_toArray, List.set_cons_zero, List.set_cons_succ]) | (refine Txt.tl_rowN (n := 32) (ty := 38) (by rfl) (by rfl) (by rfl) RU.out (by kernel_rfl) (by rw [List.length_map]; exact HU.out) ?_; simp only [Act.put, List.setIfInBounds_toArray, List.set_cons_zero, List.set_cons_succ])))
                    refine Txt.tl_loud (by rfl) ?_
                    refine Mp.wp_put wrKey Tryz.underlying48 rfl rfl ((show MuAt _ b bl bo Lm (addGs [] G) from HM.out.get 3 rfl).all.get 1 rfl) (k := x) trivial rfl (v := .bool true) rfl ?_
                    rw [put_dL]
                    intro w8 h8 k8
                    have HM : Hid _ := M.mto HM.out 3 rfl (MTo.of (M.setMap (show MuAt _ b bl bo Lm (addGs [] G) from HM.out.get 3 rfl).all 1 rfl h8 k8))
                    clear h8 k8 c0
                    refine ⟨trivial, ?_⟩
                    simp only [Act.put, List.setIfInBounds_toArray, List.set_cons_zero, List.set_cons_succ]
                    refine Txt.tl_nil ?_
                    go_wp2
                    go_roundw
                    case rel => exact ⟨i + 1, e, addW Lm x, by omega, by go_num, rfl, HM.out.take 4, HI2.out⟩
                    case measure => simp [intOf]; omega
                · have HI2 : Hid (LwI s L G a (i + 1) 4 (addW Lm x)) := HI.out.bad Hd.out HBg.out (fine_ord Hd.out Hy.out hi0 (fun h => hcn (by rw [← hc]; exact (ltW_iff y x).2 h)))
                  have HGe : Hid (decide (0 ≤ c) = true) := decide_eq_true (by omega)
                  clear hy hc hcn
                  go_wp2_with (first | ((with_reducible refine at_load 54 ?_); refine St.wl_load tyW rfl rfl rfl Rd.out (we_len x) ?_; simp only [Act.put, List.setIfInBounds_toArray, List.set_cons_zero, List.set_cons_succ]) | ((with_reducible refine at_alloc 54 ?_); refine St.wl_alloc tyW rfl rfl Hob.out ?_; simp only [Act.put, List.setIfInBounds_toArray, List.set_cons_zero, List.set_cons_succ]) | ((with_reducible refine at_store 54 ?_); refine St.wl_storeN (W := wr) tyW rfl rfl rfl rfl rfl Hob.out (show _ = Value.agg (we x).toArray from rfl) (we_sz _) rfl (encW.all _) ?_))
                  have HM : Hid _ := HM.out.drew
                  have c1 := (show MuAt _ b bl bo Lm (addGs [] G) from HM.out.get 3 rfl).cells.2
                  have RX : Hid _ := HM.out.range 4 rfl
                  have RY : Hid _ := HM.out.range 4 rfl
                  have RU : Hid _ := rng_wu (HM.out.range 4 rfl)
                  have RZ := (St.Own.slice (show St.Own 54 34 we _ (.slice (some ⟨g0, o0, none⟩) q lc) L from HM.out.get 1 rfl)).2.lay.resolve_left (by rw [Hq.out]; omega) |> fun ⟨_, _, e, _, hr⟩ => (by cases e; exact hr (i - 1) y Hy.out : World.rangeAt _ g0 (o0 + (i - 1) * 34) (we y))
                  have RY : Hid _ := RZ
                  clear RZ
                  refine Txt.wp_region_text (fun _ => True) [0, 0, 0, 0, 0, 0, 0, 1, 1, 4, 0, 0, 0, 0, 0, 0, 1, 0, 1, 1, 0] (by kernel_rfl) (by kernel_rfl) trivial ?_
                  (repeat (first | ((with_reducible refine at_dt 65 ?_); refine Txt.tl_pure (v := .int .i64 ((i - 1 : Nat) : Int)) (by rfl) ?_ ?_; (focus (intro _; go_simp; try exact hwr)); simp only [Act.put, List.setIfInBounds_toArray, List.set_cons_zero, List.set_cons_succ]) | (refine Txt.tl_pure (v := ?_) (by rfl) ?_ ?_; rotate_left; (focus (intro _; go_simp; try with_reducible rfl)); simp only [Act.put, List.setIfInBounds_toArray, List.set_cons_zero, List.set_cons_succ]) | (refine Txt.tl_skip (by rfl) trivial ?_; simp only [Act.put, List.setIfInBounds_toArray, List.set_cons_zero, List.set_cons_succ]) | (refine Txt.tl_load (v := ?_) (by rfl) (by rfl) (by rfl) (by kernel_rfl) ?_ ?_; rotate_left; (focus assumption); simp only [Act.put, List.setIfInBounds_toArray, List.set_cons_zero, List.set_cons_succ]) | (refine Txt.tl_rowN (n := 34) (ty := 54) (by rfl) (by rfl) (by rfl) RY.out (by kernel_rfl) (we_len _) ?_; simp only [Act.put, List.setIfInBounds_toArray, List.set_cons_zero, List.set_cons_succ]) | (refine Txt.tl_rowN (n := 34) (ty := 54) (by rfl) (by rfl) (by rfl) RX.out (by kernel_rfl) (we_len _) ?_; simp only [Act.put, List.setIfInBounds_toArray, List.set_cons_zero, List.set_cons_succ]) | (refine Txt.tl_rowN (n := 32) (ty := 38) (by rfl) (by rfl) (by rfl) RU.out (by kernel_rfl) (by rw [List.length_map]; exact HU.out) ?_; simp only [Act.put, List.setIfInBounds_toArray, List.set_cons_zero, List.set_cons_succ])))
                  refine Txt.tl_call Tryz.func19 (by kernel_rfl) (by kernel_rfl) (by rfl) (by rfl) (by rfl) (HC.out _) ?_
                  rintro e w7 ⟨rfl, k7⟩
                  have HM : Hid _ := HM.out.calm k7
                  clear k7
                  have c1 := (show MuAt _ b bl bo Lm (addGs [] G) from HM.out.get 3 rfl).cells.2
                  have RX : Hid _ := HM.out.range 4 rfl
                  have RU : Hid _ := rng_wu (HM.out.range 4 rfl)
                  refine ⟨_, rfl, trivial, ?_⟩
                  simp only [Act.put, List.setIfInBounds_toArray, List.set_cons_zero, List.set_cons_succ]
                  (repeat (first | ((with_reducible refine at_dt 65 ?_); refine Txt.tl_pure (v := .int .i64 ((i - 1 : Nat) : Int)) (by rfl) ?_ ?_; (focus (intro _; go_simp; try exact hwr)); simp only [Act.put, List.setIfInBounds_toArray, List.set_cons_zero, List.set_cons_succ]) | (refine Txt.tl_pure (v := ?_) (by rfl) ?_ ?_; rotate_left; (focus (intro _; go_simp; try with_reducible rfl)); simp only [Act.put, List.setIfInBounds_toArray, List.set_cons_zero, List.set_cons_succ]) | (refine Txt.tl_skip (by rfl) trivial ?_; simp only [Act.put, List.setIfInBounds_toArray, List.set_cons_zero, List.set_cons_succ]) | (refine Txt.tl_load (v := ?_) (by rfl) (by rfl) (by rfl) (by kernel_rfl) ?_ ?_; rotate_left; (focus assumption); simp only [Act.put, List.setIfInBounds_toArray, List.set_cons_zero, List.set_cons_succ]) | (refine Txt.tl_rowN (n := 34) (ty := 54) (by rfl) (by rfl) (by rfl) RY.out (by kernel_rfl) (we_len _) ?_; simp only [Act.put, List.setIfInBounds_toArray, List.set_cons_zero, List.set_cons_succ]) | (refine Txt.tl_rowN (n := 34) (ty := 54) (by rfl) (by rfl) (by rfl) RX.out (by kernel_rfl) (we_len _) ?_; simp only [Act.put, List.setIfInBounds_toArray, List.set_cons_zero, List.set_cons_succ]) | (refine Txt.tl_rowN (n := 32) (ty := 38) (by rfl) (by rfl) (by rfl) RU.out (by kernel_rfl) (by rw [List.length_map]; exact HU.out) ?_; simp only [Act.put, List.setIfInBounds_toArray, List.set_cons_zero, List.set_cons_succ])))
                  rw [HGe.out]
                  (repeat (first | ((with_reducible refine at_dt 65 ?_); refine Txt.tl_pure (v := .int .i64 ((i - 1 : Nat) : Int)) (by rfl) ?_ ?_; (focus (intro _; go_simp; try exact hwr)); simp only [Act.put, List.setIfInBounds_toArray, List.set_cons_zero, List.set_cons_succ]) | (refine Txt.tl_pure (v := ?_) (by rfl) ?_ ?_; rotate_left; (focus (intro _; go_simp; try with_reducible rfl)); simp only [Act.put, List.setIfInBounds_toArray, List.set_cons_zero, List.set_cons_succ]) | (refine Txt.tl_skip (by rfl) trivial ?_; simp only [Act.put, List.setIfInBounds_toArray, List.set_cons_zero, List.set_cons_succ]) | (refine Txt.tl_load (v := ?_) (by rfl) (by rfl) (by rfl) (by kernel_rfl) ?_ ?_; rotate_left; (focus assumption); simp only [Act.put, List.setIfInBounds_toArray, List.set_cons_zero, List.set_cons_succ]) | (refine Txt.tl_rowN (n := 34) (ty := 54) (by rfl) (by rfl) (by rfl) RY.out (by kernel_rfl) (we_len _) ?_; simp only [Act.put, List.setIfInBounds_toArray, List.set_cons_zero, List.set_cons_succ]) | (refine Txt.tl_rowN (n := 34) (ty := 54) (by rfl) (by rfl) (by rfl) RX.out (by kernel_rfl) (we_len _) ?_; simp only [Act.put, List.setIfInBounds_toArray, List.set_cons_zero, List.set_cons_succ]) | (refine Txt.tl_rowN (n := 32) (ty := 38) (by rfl) (by rfl) (by rfl) RU.out (by kernel_rfl) (by rw [List.length_map]; exact HU.out) ?_; simp only [Act.put, List.setIfInBounds_toArray, List.set_cons_zero, List.set_cons_succ])))
                  refine Txt.tl_nil ?_
                  clear c1 RX RY RU
                  go_wp2
                  have HM : Hid _ := HM.out.drew
                  have c0 := (show MuAt _ b bl bo Lm (addGs [] G) from HM.out.get 3 rfl).cells.1
                  have RX : Hid _ := HM.out.range 4 rfl
                  have RY : Hid _ := HM.out.range 4 rfl
                  have RU : Hid _ := rng_wu (HM.out.range 4 rfl)
                  refine Txt.wp_region_text (fun _ => True) [0, 0, 0, 1, 1, 4] (by kernel_rfl) (by kernel_rfl) trivial ?_
                  (repeat (first | ((with_reducible refine at_dt 65 ?_); refine Txt.tl_pure (v := .int .i64 ((i - 1 : Nat) : Int)) (by rfl) ?_ ?_; (focus (intro _; go_simp; try exact hwr)); simp only [Act.put, List.setIfInBounds_toArray, List.set_cons_zero, List.set_cons_succ]) | (refine Txt.tl_pure (v := ?_) (by rfl) ?_ ?_; rotate_left; (focus (intro _; go_simp; try with_reducible rfl)); simp only [Act.put, List.setIfInBounds_toArray, List.set_cons_zero, List.set_cons_succ]) | (refine Txt.tl_skip (by rfl) trivial ?_; simp only [Act.put, List.setIfInBounds_toArray, List.set_cons_zero, List.set_cons_succ]) | (refine Txt.tl_load (v := ?_) (by rfl) (by rfl) (by rfl) (by kernel_rfl) ?_ ?_; rotate_left; (focus assumption); simp only [Act.put, List.setIfInBounds_toArray, List.set_cons_zero, List.set_cons_succ]) | (refine Txt.tl_rowN (n := 34) (ty := 54) (by rfl) (by rfl) (by rfl) RY.out (by kernel_rfl) (we_len _) ?_; simp only [Act.put, List.setIfInBounds_toArray, List.set_cons_zero, List.set_cons_succ]) | (refine Txt.tl_rowN (n := 34) (ty := 54) (by rfl) (by rfl) (by rfl) RX.out (by kernel_rfl) (we_len _) ?_; simp only [Act.put, List.setIfInBounds_toArray, List.set_cons_zero, List.set_cons_succ]) | (refine Txt.tl_rowN (n := 32) (ty := 38) (by rfl) (by rfl) (by rfl) RU.out (by kernel_rfl) (by rw [List.length_map]; exact HU.out) ?_; simp only [Act.put, List.setIfInBounds_toArray, List.set_cons_zero, List.set_cons_succ])))
                  refine Txt.tl_loud (by rfl) ?_
                  refine Mp.wp_put wrKey Tryz.underlying48 rfl rfl ((show MuAt _ b bl bo Lm (addGs [] G) from HM.out.get 3 rfl).all.get 1 rfl) (k := x) trivial rfl (v := .bool true) rfl ?_
                  rw [put_dL]
                  intro w8 h8 k8
                  have HM : Hid _ := M.mto HM.out 3 rfl (MTo.of (M.setMap (show MuAt _ b bl bo Lm (addGs [] G) from HM.out.get 3 rfl).all 1 rfl h8 k8))
                  clear h8 k8 c0
                  refine ⟨trivial, ?_⟩
                  simp only [Act.put, List.setIfInBounds_toArray, List.set_cons_zero, List.set_cons_succ]
                  refine Txt.tl_nil ?_
                  go_wp2
                  go_roundw
                  case rel => exact ⟨i + 1, 4, addW Lm x, by omega, by go_num, rfl, HM.out.take 4, HI2.out⟩
                  case measure => simp [intOf]; omega
          · obtain rfl : q = i := by omega
            have HTk : Hid (L.take q = L) := List.take_of_length_le (by rw [Hq.out]; exact Nat.le_refl _)
            have HCk : Hid (∀ x ∈ L, badW x = false) := fun d hd => HI.out.ck d (by rw [HTk.out]; exact hd)
            rcases HI.out.zf with he | he
            · subst he
              obtain ⟨hz1, hz2, hz3, hz4⟩ := HI.out.z rfl
              rw [HTk.out] at hz3 hz4
              have HFi : Hid (FineW s L G a) := ⟨hz1, hz3, hz2, hz4⟩
              clear hz1 hz2 hz3 hz4
              go_wp2
              go_ret2
              exact ⟨L, G, a, 0, 0, _, rfl, HR.out, .inr ⟨rfl, .inr ⟨HCk.out, .inl ⟨rfl, HFi.out⟩⟩⟩, HM.out.keep, fun h => absurd rfl h, fun _ => ⟨b, bl, bo, Lm, rfl, HM.out.sub _ [3] (by decide) rfl, HI.out.nd, fun x => by rw [HI.out.mem, HTk.out]⟩⟩
            · subst he
              go_wp2
              go_ret2
              exact ⟨L, G, a, 0, 4, _, rfl, HR.out, .inr ⟨rfl, .inr ⟨HCk.out, .inr ⟨rfl, HI.out.f rfl⟩⟩⟩, HM.out.keep, fun _ => rfl, fun h => (by cases h)⟩
      · have hS : IdL.Srt G := by first | exact HSr.out rfl | exact HSr.out trivial | exact HSr.out
        have HI0 : Hid (LwI s L G a 0 ev []) := by have := LwI.start1 s L a hS; rwa [Hev.out] at this
        clear hS
        go_loopw [45, 10] (fun s45 s10 wr => ∃ (i : Nat) (e : Int) (Lm : List Wr), i ≤ q ∧ s45 = .int .i64 i ∧ s10 = .int .i64 e ∧ M (fun _ => False) w wr [rd rb s a 0, rW (.slice la q lc) L, ids (.slice ga g gc) G, muI b bl bo Lm (addGs [] G)] ∧ LwI s L G a i e Lm) (fun s45 _ _ => q - (intOf s45).toNat)
        case atStart => exact ⟨0, ev, [], Nat.zero_le _, by go_num, rfl, HM.out, HI0.out⟩
        case round =>
          clear HM HI0
          obtain ⟨i, e, Lm, hi, rfl, rfl, hM, hI⟩ := hrel
          have HM : Hid (M (fun _ => False) w wr [rd rb s a 0, rW (.slice la q lc) L, ids (.slice ga g gc) G, muI b bl bo Lm (addGs [] G)]) := hM
          have HI : Hid (LwI s L G a i e Lm) := hI
          clear hM hI
          by_cases hlt : i < q
          · obtain ⟨x, hd⟩ : ∃ d, L[i]? = some d := ⟨_, List.getElem?_eq_getElem (by rw [Hq.out]; exact hlt)⟩
            have Hd : Hid (L[i]? = some x) := hd
            obtain ⟨g0, o0, e0, _, hr0⟩ := (St.Own.slice (show St.Own 54 34 we wr (.slice la q lc) L from HM.out.get 1 rfl)).2.lay.resolve_left (by rw [Hq.out]; omega)
            subst e0
            have Rd : Hid (wr.rangeAt g0 (o0 + i * 34) (we x)) := hr0 i x hd
            have HU : Hid (x.u.length = 32) := x.hu
            obtain ⟨hvk, hvv⟩ := HR.out.vs x (List.mem_of_getElem? hd)
            have hs3 := Hs.out
            have HM : Hid (M (fun _ => False) w _ [rd rb s a 0, rW (.slice (some ⟨g0, o0, none⟩) q lc) L, ids (.slice ga g gc) G, muI b bl bo Lm (addGs [] G), blk wr.heap.size (.cells (we x).toArray 54)]) := HM.out.alloc (.cells (we x).toArray 54) rfl
            have d32 := rng_wk (HM.out.range 4 rfl)
            have d33 := rng_wv (HM.out.range 4 rfl)
            simp only [Nat.zero_add] at d32 d33
            obtain ⟨ob, hob⟩ : ∃ n, wr.heap.size = n := ⟨_, rfl⟩
            have Hob : Hid (wr.heap.size = ob) := hob
            rw [hob] at HM d32 d33
            clear hr0 hd hob
            have hbig : 16 < x.k.size ∨ (x.k.size ≤ 16 ∧ 16 < x.v.size) ∨ (x.k.size ≤ 16 ∧ x.v.size ≤ 16) := by omega
            rcases hbig with h1 | ⟨h1, h2⟩ | ⟨h1, h2⟩
            · have HBg : Hid (badW x = true) := by show _ = _; unfold badW; rw [decide_eq_true_eq]; exact .inl h1
              go_wp2_with (first | ((with_reducible refine at_load 54 ?_); refine St.wl_load tyW rfl rfl rfl Rd.out (we_len x) ?_; simp only [Act.put, List.setIfInBounds_toArray, List.set_cons_zero, List.set_cons_succ]) | ((with_reducible refine at_alloc 54 ?_); refine St.wl_alloc tyW rfl rfl Hob.out ?_; simp only [Act.put, List.setIfInBounds_toArray, List.set_cons_zero, List.set_cons_succ]) | ((with_reducible refine at_store 54 ?_); refine St.wl_storeN (W := wr) tyW rfl rfl rfl rfl rfl Hob.out (show _ = Value.agg (we x).toArray from rfl) (we_sz _) rfl (encW.all _) ?_))
              go_ret2
              exact ⟨L, G, a, 0, 3, _, rfl, HR.out, .inr ⟨rfl, .inl ⟨⟨x, List.mem_of_getElem? Hd.out, HBg.out⟩, rfl⟩⟩, HM.out.keep, fun _ => rfl, fun h => (by cases h)⟩
            · have HBg : Hid (badW x = true) := by show _ = _; unfold badW; rw [decide_eq_true_eq]; exact .inr h2
              go_wp2_with (first | ((with_reducible refine at_load 54 ?_); refine St.wl_load tyW rfl rfl rfl Rd.out (we_len x) ?_; simp only [Act.put, List.setIfInBounds_toArray, List.set_cons_zero, List.set_cons_succ]) | ((with_reducible refine at_alloc 54 ?_); refine St.wl_alloc tyW rfl rfl Hob.out ?_; simp only [Act.put, List.setIfInBounds_toArray, List.set_cons_zero, List.set_cons_succ]) | ((with_reducible refine at_store 54 ?_); refine St.wl_storeN (W := wr) tyW rfl rfl rfl rfl rfl Hob.out (show _ = Value.agg (we x).toArray from rfl) (we_sz _) rfl (encW.all _) ?_))
              go_ret2
              exact ⟨L, G, a, 0, 3, _, rfl, HR.out, .inr ⟨rfl, .inl ⟨⟨x, List.mem_of_getElem? Hd.out, HBg.out⟩, rfl⟩⟩, HM.out.keep, fun _ => rfl, fun h => (by cases h)⟩
            · have HBg : Hid (badW x = false) := by show _ = _; unfold badW; rw [decide_eq_false_iff_not]; omega
              have HDg : Hid (∀ p : Bool, (decide (x.u ∈ addGs [] G) = p) ↔ (p = true ↔ x.u ∈ G)) := fun p => by
                have : x.u ∈ addGs [] G ↔ x.u ∈ G := by rw [mem_addGs]; simp
                rw [← this]
                cases p <;> simp
              by_cases h0 : i = 0
              · subst h0
                by_cases hm : x.u ∈ G
                · have HL : Hid (decide (x.u ∈ addGs [] G) = true) := (HDg.out true).2 ⟨fun _ => hm, fun _ => rfl⟩
                  have HI2 : Hid (LwI s L G a (0 + 1) 4 (addW Lm x)) := HI.out.bad Hd.out HBg.out (fun hf => hf.2.2.2 x (List.mem_of_getElem? Hd.out) hm)
                  clear hm
                  go_wp2_with (first | ((with_reducible refine at_load 54 ?_); refine St.wl_load tyW rfl rfl rfl Rd.out (we_len x) ?_; simp only [Act.put, List.setIfInBounds_toArray, List.set_cons_zero, List.set_cons_succ]) | ((with_reducible refine at_alloc 54 ?_); refine St.wl_alloc tyW rfl rfl Hob.out ?_; simp only [Act.put, List.setIfInBounds_toArray, List.set_cons_zero, List.set_cons_succ]) | ((with_reducible refine at_store 54 ?_); refine St.wl_storeN (W := wr) tyW rfl rfl rfl rfl rfl Hob.out (show _ = Value.agg (we x).toArray from rfl) (we_sz _) rfl (encW.all _) ?_))
                  have HM : Hid _ := HM.out.drew
                  have c1 := (show MuAt _ b bl bo Lm (addGs [] G) from HM.out.get 3 rfl).cells.2
                  have RX : Hid _ := HM.out.range 4 rfl
                  have RY : Hid _ := HM.out.range 4 rfl
                  have RU : Hid _ := rng_wu (HM.out.range 4 rfl)
                  refine Txt.wp_region_text (fun _ => True) [0, 0, 0, 0, 0, 0, 0, 1, 1, 4, 0, 0, 0, 0, 0, 0, 1, 0, 1, 1, 0] (by kernel_rfl) (by kernel_rfl) trivial ?_
                  (repeat (first | ((with_reducible refine at_dt 65 ?_); refine Txt.tl_pure (v := .int .i64 ((i - 1 : Nat) : Int)) (by rfl) ?_ ?_; (focus (intro _; go_simp; try exact hwr)); simp only [Act.put, List.setIfInBounds_toArray, List.set_cons_zero, List.set_cons_succ]) | (refine Txt.tl_pure (v := ?_) (by rfl) ?_ ?_; rotate_left; (focus (intro _; go_simp; try with_reducible rfl)); simp only [Act.put, List.setIfInBounds_toArray, List.set_cons_zero, List.set_cons_succ]) | (refine Txt.tl_skip (by rfl) trivial ?_; simp only [Act.put, List.setIfInBounds_toArray, List.set_cons_zero, List.set_cons_succ]) | (refine Txt.tl_load (v := ?_) (by rfl) (by rfl) (by rfl) (by kernel_rfl) ?_ ?_; rotate_left; (focus assumption); simp only [Act.put, List.setIfInBounds_toArray, List.set_cons_zero, List.set_cons_succ]) | (refine Txt.tl_rowN (n := 34) (ty := 54) (by rfl) (by rfl) (by rfl) RY.out (by kernel_rfl) (we_len _) ?_; simp only [Act.put, List.setIfInBounds_toArray, List.set_cons_zero, List.set_cons_succ]) | (refine Txt.tl_rowN (n := 34) (ty := 54) (by rfl) (by rfl) (by rfl) RX.out (by kernel_rfl) (we_len _) ?_; simp only [Act.put, List.setIfInBounds_toArray, List.set_cons_zero, List.set_cons_succ]) | (refine Txt.tl_rowN (n := 32) (ty := 38) (by rfl) (by rfl) (by rfl) RU.out (by kernel_rfl) (by rw [List.length_map]; exact HU.out) ?_; simp only [Act.put, List.setIfInBounds_toArray, List.set_cons_zero, List.set_cons_succ])))
                  refine Mp.tl_look idKey Tryz.underlying49 (by rfl) rfl rfl ((show MuAt _ b bl bo Lm (addGs [] G) from HM.out.get 3 rfl).all.get 2 rfl) Sq.zeroB HU.out rfl (Sq.look_G (addGs [] G) x.u) ?_
                  simp only [Act.put, List.setIfInBounds_toArray, List.set_cons_zero, List.set_cons_succ]
                  rw [HL.out]
                  (repeat (first | ((with_reducible refine at_dt 65 ?_); refine Txt.tl_pure (v := .int .i64 ((i - 1 : Nat) : Int)) (by rfl) ?_ ?_; (focus (intro _; go_simp; try exact hwr)); simp only [Act.put, List.setIfInBounds_toArray, List.set_cons_zero, List.set_cons_succ]) | (refine Txt.tl_pure (v := ?_) (by rfl) ?_ ?_; rotate_left; (focus (intro _; go_simp; try with_reducible rfl)); simp only [Act.put, List.setIfInBounds_toArray, List.set_cons_zero, List.set_cons_succ]) | (refine Txt.tl_skip (by rfl) trivial ?_; simp only [Act.put, List.setIfInBounds_toArray, List.set_cons_zero, List.set_cons_succ]) | (refine Txt.tl_load (v := ?_) (by rfl) (by rfl) (by rfl) (by kernel_rfl) ?_ ?_; rotate_left; (focus assumption); simp only [Act.put, List.setIfInBounds_toArray, List.set_cons_zero, List.set_cons_succ]) | (refine Txt.tl_rowN (n := 34) (ty := 54) (by rfl) (by rfl) (by rfl) RY.out (by kernel_rfl) (we_len _) ?_; simp only [Act.put, List.setIfInBounds_toArray, List.set_cons_zero, List.set_cons_succ]) | (refine Txt.tl_rowN (n := 34) (ty := 54) (by rfl) (by rfl) (by rfl) RX.out (by kernel_rfl) (we_len _) ?_; simp only [Act.put, List.setIfInBounds_toArray, List.set_cons_zero, List.set_cons_succ]) | (refine Txt.tl_rowN (n := 32) (ty := 38) (by rfl) (by rfl) (by rfl) RU.out (by kernel_rfl) (by rw [List.length_map]; exact HU.out) ?_; simp only [Act.put, List.setIfInBounds_toArray, List.set_cons_zero, List.set_cons_succ])))
                  refine Txt.tl_nil ?_
                  clear c1 RX RY RU
                  go_wp2
                  have HM : Hid _ := HM.out.drew
                  have c0 := (show MuAt _ b bl bo Lm (addGs [] G) from HM.out.get 3 rfl).cells.1
                  have RX : Hid _ := HM.out.range 4 rfl
                  have RY : Hid _ := HM.out.range 4 rfl
                  have RU : Hid _ := rng_wu (HM.out.range 4 rfl)
                  refine Txt.wp_region_text (fun _ => True) [0, 0, 0, 1, 1, 4] (by kernel_rfl) (by kernel_rfl) trivial ?_
                  (repeat (first | ((with_reducible refine at_dt 65 ?_); refine Txt.tl_pure (v := .int .i64 ((i - 1 : Nat) : Int)) (by rfl) ?_ ?_; (focus (intro _; go_simp; try exact hwr)); simp only [Act.put, List.setIfInBounds_toArray, List.set_cons_zero, List.set_cons_succ]) | (refine Txt.tl_pure (v := ?_) (by rfl) ?_ ?_; rotate_left; (focus (intro _; go_simp; try with_reducible rfl)); simp only [Act.put, List.setIfInBounds_toArray, List.set_cons_zero, List.set_cons_succ]) | (refine Txt.tl_skip (by rfl) trivial ?_; simp only [Act.put, List.setIfInBounds_toArray, List.set_cons_zero, List.set_cons_succ]) | (refine Txt.tl_load (v := ?_) (by rfl) (by rfl) (by rfl) (by kernel_rfl) ?_ ?_; rotate_left; (focus assumption); simp only [Act.put, List.setIfInBounds_toArray, List.set_cons_zero, List.set_cons_succ]) | (refine Txt.tl_rowN (n := 34) (ty := 54) (by rfl) (by rfl) (by rfl) RY.out (by kernel_rfl) (we_len _) ?_; simp only [Act.put, List.setIfInBounds_toArray, List.set_cons_zero, List.set_cons_succ]) | (refine Txt.tl_rowN (n := 34) (ty := 54) (by rfl) (by rfl) (by rfl) RX.out (by kernel_rfl) (we_len _) ?_; simp only [Act.put, List.setIfInBounds_toArray, List.set_cons_zero, List.set_cons_succ]) | (refine Txt.tl_rowN (n := 32) (ty := 38) (by rfl) (by rfl) (by rfl) RU.out (by kernel_rfl) (by rw [List.length_map]; exact HU.out) ?_; simp only [Act.put, List.setIfInBounds_toArray, List.set_cons_zero, List.set_cons_succ])))
                  refine Txt.tl_loud (by rfl) ?_
                  refine Mp.wp_put wrKey Tryz.underlying48 rfl rfl ((show MuAt _ b bl bo Lm (addGs [] G) from HM.out.get 3 rfl).all.get 1 rfl) (k := x) trivial rfl (v := .bool true) rfl ?_
                  rw [put_dL]
                  intro w8 h8 k8
                  have HM : Hid _ := M.mto HM.out 3 rfl (MTo.of (M.setMap (show MuAt _ b bl bo Lm (addGs [] G) from HM.out.get 3 rfl).all 1 rfl h8 k8))
                  clear h8 k8 c0
                  refine ⟨trivial, ?_⟩
                  simp only [Act.put, List.setIfInBounds_toArray, List.set_cons_zero, List.set_cons_succ]
                  refine Txt.tl_nil ?_
                  go_wp2
                  go_roundw
                  case rel => exact ⟨0 + 1, 4, addW Lm x, by omega, by go_num, rfl, HM.out.take 4, HI2.out⟩
                  case measure => simp [intOf]; omega
                · have HL : Hid (decide (x.u ∈ addGs [] G) = false) := (HDg.out false).2 ⟨fun h => (by cases h), fun h => absurd h hm⟩
                  have HI2 : Hid (LwI s L G a (0 + 1) e (addW Lm x)) := HI.out.good Hd.out HBg.out hm (.inl rfl)
                  clear hm
                  go_wp2_with (first | ((with_reducible refine at_load 54 ?_); refine St.wl_load tyW rfl rfl rfl Rd.out (we_len x) ?_; simp only [Act.put, List.setIfInBounds_toArray, List.set_cons_zero, List.set_cons_succ]) | ((with_reducible refine at_alloc 54 ?_); refine St.wl_alloc tyW rfl rfl Hob.out ?_; simp only [Act.put, List.setIfInBounds_toArray, List.set_cons_zero, List.set_cons_succ]) | ((with_reducible refine at_store 54 ?_); refine St.wl_storeN (W := wr) tyW rfl rfl rfl rfl rfl Hob.out (show _ = Value.agg (we x).toArray from rfl) (we_sz _) rfl (encW.all _) ?_))
                  have HM : Hid _ := HM.out.drew
                  have c1 := (show MuAt _ b bl bo Lm (addGs [] G) from HM.out.get 3 rfl).cells.2
                  have RX : Hid _ := HM.out.range 4 rfl
                  have RY : Hid _ := HM.out.range 4 rfl
                  have RU : Hid _ := rng_wu (HM.out.range 4 rfl)
                  refine Txt.wp_region_text (fun _ => True) [0, 0, 0, 0, 0, 0, 0, 1, 1, 4, 0, 0, 0, 0, 0, 0, 1, 0, 1, 1, 0] (by kernel_rfl) (by kernel_rfl) trivial ?_
                  (repeat (first | ((with_reducible refine at_dt 65 ?_); refine Txt.tl_pure (v := .int .i64 ((i - 1 : Nat) : Int)) (by rfl) ?_ ?_; (focus (intro _; go_simp; try exact hwr)); simp only [Act.put, List.setIfInBounds_toArray, List.set_cons_zero, List.set_cons_succ]) | (refine Txt.tl_pure (v := ?_) (by rfl) ?_ ?_; rotate_left; (focus (intro _; go_simp; try with_reducible rfl)); simp only [Act.put, List.setIfInBounds_toArray, List.set_cons_zero, List.set_cons_succ]) | (refine Txt.tl_skip (by rfl) trivial ?_; simp only [Act.put, List.setIfInBounds_toArray, List.set_cons_zero, List.set_cons_succ]) | (refine Txt.tl_load (v := ?_) (by rfl) (by rfl) (by rfl) (by kernel_rfl) ?_ ?_; rotate_left; (focus assumption); simp only [Act.put, List.setIfInBounds_toArray, List.set_cons_zero, List.set_cons_succ]) | (refine Txt.tl_rowN (n := 34) (ty := 54) (by rfl) (by rfl) (by rfl) RY.out (by kernel_rfl) (we_len _) ?_; simp only [Act.put, List.setIfInBounds_toArray, List.set_cons_zero, List.set_cons_succ]) | (refine Txt.tl_rowN (n := 34) (ty := 54) (by rfl) (by rfl) (by rfl) RX.out (by kernel_rfl) (we_len _) ?_; simp only [Act.put, List.setIfInBounds_toArray, List.set_cons_zero, List.set_cons_succ]) | (refine Txt.tl_rowN (n := 32) (ty := 38) (by rfl) (by rfl) (by rfl) RU.out (by kernel_rfl) (by rw [List.length_map]; exact HU.out) ?_; simp only [Act.put, List.setIfInBounds_toArray, List.set_cons_zero, List.set_cons_succ])))
                  refine Mp.tl_look idKey Tryz.underlying49 (by rfl) rfl rfl ((show MuAt _ b bl bo Lm (addGs [] G) from HM.out.get 3 rfl).all.get 2 rfl) Sq.zeroB HU.out rfl (Sq.look_G (addGs [] G) x.u) ?_
                  simp only [Act.put, List.setIfInBounds_toArray, List.set_cons_zero, List.set_cons_succ]
                  rw [HL.out]
                  (repeat (first | ((with_reducible refine at_dt 65 ?_); refine Txt.tl_pure (v := .int .i64 ((i - 1 : Nat) : Int)) (by rfl) ?_ ?_; (focus (intro _; go_simp; try exact hwr)); simp only [Act.put, List.setIfInBounds_toArray, List.set_cons_zero, List.set_cons_succ]) | (refine Txt.tl_pure (v := ?_) (by rfl) ?_ ?_; rotate_left; (focus (intro _; go_simp; try with_reducible rfl)); simp only [Act.put, List.setIfInBounds_toArray, List.set_cons_zero, List.set_cons_succ]) | (refine Txt.tl_skip (by rfl) trivial ?_; simp only [Act.put, List.setIfInBounds_toArray, List.set_cons_zero, List.set_cons_succ]) | (refine Txt.tl_load (v := ?_) (by rfl) (by rfl) (by rfl) (by kernel_rfl) ?_ ?_; rotate_left; (focus assumption); simp only [Act.put, List.setIfInBounds_toArray, List.set_cons_zero, List.set_cons_succ]) | (refine Txt.tl_rowN (n := 34) (ty := 54) (by rfl) (by rfl) (by rfl) RY.out (by kernel_rfl) (we_len _) ?_; simp only [Act.put, List.setIfInBounds_toArray, List.set_cons_zero, List.set_cons_succ]) | (refine Txt.tl_rowN (n := 34) (ty := 54) (by rfl) (by rfl) (by rfl) RX.out (by kernel_rfl) (we_len _) ?_; simp only [Act.put, List.setIfInBounds_toArray, List.set_cons_zero, List.set_cons_succ]) | (refine Txt.tl_rowN (n := 32) (ty := 38) (by rfl) (by rfl) (by rfl) RU.out (by kernel_rfl) (by rw [List.length_map]; exact HU.out) ?_; simp only [Act.put, List.setIfInBounds_toArray, List.set_cons_zero, List.set_cons_succ])))
                  refine Txt.tl_nil ?_
                  clear c1 RX RY RU
                  go_wp2
                  have HM : Hid _ := HM.out.drew
                  have c0 := (show MuAt _ b bl bo Lm (addGs [] G) from HM.out.get 3 rfl).cells.1
                  have RX : Hid _ := HM.out.range 4 rfl
                  have RY : Hid _ := HM.out.range 4 rfl
                  have RU : Hid _ := rng_wu (HM.out.range 4 rfl)
                  refine Txt.wp_region_text (fun _ => True) [0, 0, 0, 1, 1, 4] (by kernel_rfl) (by kernel_rfl) trivial ?_
                  (repeat (first | ((with_reducible refine at_dt 65 ?_); refine Txt.tl_pure (v := .int .i64 ((i - 1 : Nat) : Int)) (by rfl) ?_ ?_; (focus (intro _; go_simp; try exact hwr)); simp only [Act.put, List.setIfInBounds_toArray, List.set_cons_zero, List.set_cons_succ]) | (refine Txt.tl_pure (v := ?_) (by rfl) ?_ ?_; rotate_left; (focus (intro _; go_simp; try with_reducible rfl)); simp only [Act.put, List.setIfInBounds_toArray, List.set_cons_zero, List.set_cons_succ]) | (refine Txt.tl_skip (by rfl) trivial ?_; simp only [Act.put, List.setIfInBounds_toArray, List.set_cons_zero, List.set_cons_succ]) | (refine Txt.tl_load (v := ?_) (by rfl) (by rfl) (by rfl) (by kernel_rfl) ?_ ?_; rotate_left; (focus assumption); simp only [Act.put, List.setIfInBounds_toArray, List.set_cons_zero, List.set_cons_succ]) | (refine Txt.tl_rowN (n := 34) (ty := 54) (by rfl) (by rfl) (by rfl) RY.out (by kernel_rfl) (we_len _) ?_; simp only [Act.put, List.setIfInBounds_toArray, List.set_cons_zero, List.set_cons_succ]) | (refine Txt.tl_rowN (n := 34) (ty := 54) (by rfl) (by rfl) (by rfl) RX.out (by kernel_rfl) (we_len _) ?_; simp only [Act.put, List.setIfInBounds_toArray, List.set_cons_zero, List.set_cons_succ]) | (refine Txt.tl_rowN (n := 32) (ty := 38) (by rfl) (by rfl) (by rfl) RU.out (by kernel_rfl) (by rw [List.length_map]; exact HU.out) ?_; simp only [Act.put, List.setIfInBounds_toArray, List.set_cons_zero, List.set_cons_succ])))
                  refine Txt.tl_loud (by rfl) ?_
                  refine Mp.wp_put wrKey Tryz.underlying48 rfl rfl ((show MuAt _ b bl bo Lm (addGs [] G) from HM.out.get 3 rfl).all.get 1 rfl) (k := x) trivial rfl (v := .bool true) rfl ?_
                  rw [put_dL]
                  intro w8 h8 k8
                  have HM : Hid _ := M.mto HM.out 3 rfl (MTo.of (M.setMap (show MuAt _ b bl bo Lm (addGs [] G) from HM.out.get 3 rfl).all 1 rfl h8 k8))
                  clear h8 k8 c0
                  refine ⟨trivial, ?_⟩
                  simp only [Act.put, List.setIfInBounds_toArray, List.set_cons_zero, List.set_cons_succ]
                  refine Txt.tl_nil ?_
                  go_wp2
                  go_roundw
                  case rel => exact ⟨0 + 1, e, addW Lm x, by omega, by go_num, rfl, HM.out.take 4, HI2.out⟩
                  case measure => simp [intOf]; omega
              · obtain ⟨y, hy⟩ : ∃ y, L[i - 1]? = some y := ⟨_, List.getElem?_eq_getElem (by rw [Hq.out]; omega)⟩
                have Hy : Hid (L[i - 1]? = some y) := hy
                obtain ⟨c, hc⟩ : ∃ c, cmpW y x = c := ⟨_, rfl⟩
                have HC : Hid (∀ w, Calls Tryz.prog 19 #[wv y, wv x] w fun e w' => e = .returned (.int .i64 c) ∧ Keep (fun _ => False) w w') := fun w => by
                  have := order_any w y x
                  rw [hc] at this
                  exact this.mono fun e w' h => ⟨h.1, h.2.keep⟩
                have hi0 : 0 < i := by omega
                have hi1 : (0 : Int) < (i : Int) := by omega
                have hwr : IntKind.i64.wrap ((i : Int) - 1) = ((i - 1 : Nat) : Int) := by rw [IntKind.wrap_i64]; omega
                have hiq : i - 1 < q := by omega
                by_cases hcn : c < 0
                · have hlt2 : ltW y x := (ltW_iff y x).1 (by rw [hc]; exact hcn)
                  have HLt : Hid (ltW y x) := hlt2
                  have HGe : Hid (decide (0 ≤ c) = false) := decide_eq_false (by omega)
                  clear hy hc hlt2
                  by_cases hm : x.u ∈ G
                  · have HL : Hid (decide (x.u ∈ addGs [] G) = true) := (HDg.out true).2 ⟨fun _ => hm, fun _ => rfl⟩
                    have HI2 : Hid (LwI s L G a (i + 1) 4 (addW Lm x)) := HI.out.bad Hd.out HBg.out (fun hf => hf.2.2.2 x (List.mem_of_getElem? Hd.out) hm)
                    clear hm
                    go_wp2_with (first | ((with_reducible refine at_load 54 ?_); refine St.wl_load tyW rfl rfl rfl Rd.out (we_len x) ?_; simp only [Act.put, List.setIfInBounds_toArray, List.set_cons_zero, List.set_cons_succ]) | ((with_reducible refine at_alloc 54 ?_); refine St.wl_alloc tyW rfl rfl Hob.out ?_; simp only [Act.put, List.setIfInBounds_toArray, List.set_cons_zero, List.set_cons_succ]) | ((with_reducible refine at_store 54 ?_); refine St.wl_storeN (W := wr) tyW rfl rfl rfl rfl rfl Hob.out (show _ = Value.agg (we x).toArray from rfl) (we_sz _) rfl (encW.all _) ?_))
                    have HM : Hid _ := HM.out.drew
                    have c1 := (show MuAt _ b bl bo Lm (addGs [] G) from HM.out.get 3 rfl).cells.2
                    have RX : Hid _ := HM.out.range 4 rfl
                    have RY : Hid _ := HM.out.range 4 rfl
                    have RU : Hid _ := rng_wu (HM.out.range 4 rfl)
                    have RZ := (St.Own.slice (show St.Own 54 34 we _ (.slice (some ⟨g0, o0, none⟩) q lc) L from HM.out.get 1 rfl)).2.lay.resolve_left (by rw [Hq.out]; omega) |> fun ⟨_, _, e, _, hr⟩ => (by cases e; exact hr (i - 1) y Hy.out : World.rangeAt _ g0 (o0 + (i - 1) * 34) (we y))
                    have RY : Hid _ := RZ
                    clear RZ
                    refine Txt.wp_region_text (fun _ => True) [0, 0, 0, 0, 0, 0, 0, 1, 1, 4, 0, 0, 0, 0, 0, 0, 1, 0, 1, 1, 0] (by kernel_rfl) (by kernel_rfl) trivial ?_
                    (repeat (first | ((with_reducible refine at_dt 65 ?_); refine Txt.tl_pure (v := .int .i64 ((i - 1 : Nat) : Int)) (by rfl) ?_ ?_; (focus (intro _; go_simp; try exact hwr)); simp only [Act.put, List.setIfInBounds_toArray, List.set_cons_zero, List.set_cons_succ]) | (refine Txt.tl_pure (v := ?_) (by rfl) ?_ ?_; rotate_left; (focus (intro _; go_simp; try with_reducible rfl)); simp only [Act.put, List.setIfInBounds_toArray, List.set_cons_zero, List.set_cons_succ]) | (refine Txt.tl_skip (by rfl) trivial ?_; simp only [Act.put, List.setIfInBounds_toArray, List.set_cons_zero, List.set_cons_succ]) | (refine Txt.tl_load (v := ?_) (by rfl) (by rfl) (by rfl) (by kernel_rfl) ?_ ?_; rotate_left; (focus assumption); simp only [Act.put, List.setIfInBounds_toArray, List.set_cons_zero, List.set_cons_succ]) | (refine Txt.tl_rowN (n := 34) (ty := 54) (by rfl) (by rfl) (by rfl) RY.out (by kernel_rfl) (we_len _) ?_; simp only [Act.put, List.setIfInBounds_toArray, List.set_cons_zero, List.set_cons_succ]) | (refine Txt.tl_rowN (n := 34) (ty := 54) (by rfl) (by rfl) (by rfl) RX.out (by kernel_rfl) (we_len _) ?_; simp only [Act.put, List.setIfInBounds_toArray, List.set_cons_zero, List.set_cons_succ]) | (refine Txt.tl_rowN (n := 32) (ty := 38) (by rfl) (by rfl) (by rfl) RU.out (by kernel_rfl) (by rw [List.length_map]; exact HU.out) ?_; simp only [Act.put, List.setIfInBounds_toArray, List.set_cons_zero, List.set_cons_succ])))
                    refine Txt.tl_call Tryz.func19 (by kernel_rfl) (by kernel_rfl) (by rfl) (by rfl) (by rfl) (HC.out _) ?_
                    rintro e w7 ⟨rfl, k7⟩
                    have HM : Hid _ := HM.out.calm k7
                    clear k7
                    have c1 := (show MuAt _ b bl bo Lm (addGs [] G) from HM.out.get 3 rfl).cells.2
                    have RX : Hid _ := HM.out.range 4 rfl
                    have RU : Hid _ := rng_wu (HM.out.range 4 rfl)
                    refine ⟨_, rfl, trivial, ?_⟩
                    simp only [Act.put, List.setIfInBounds_toArray, List.set_cons_zero, List.set_cons_succ]
                    (repeat (first | ((with_reducible refine at_dt 65 ?_); refine Txt.tl_pure (v := .int .i64 ((i - 1 : Nat) : Int)) (by rfl) ?_ ?_; (focus (intro _; go_simp; try exact hwr)); simp only [Act.put, List.setIfInBounds_toArray, List.set_cons_zero, List.set_cons_succ]) | (refine Txt.tl_pure (v := ?_) (by rfl) ?_ ?_; rotate_left; (focus (intro _; go_simp; try with_reducible rfl)); simp only [Act.put, List.setIfInBounds_toArray, List.set_cons_zero, List.set_cons_succ]) | (refine Txt.tl_skip (by rfl) trivial ?_; simp only [Act.put, List.setIfInBounds_toArray, List.set_cons_zero, List.set_cons_succ]) | (refine Txt.tl_load (v := ?_) (by rfl) (by rfl) (by rfl) (by kernel_rfl) ?_ ?_; rotate_left; (focus assumption); simp only [Act.put, List.setIfInBounds_toArray, List.set_cons_zero, List.set_cons_succ]) | (refine Txt.tl_rowN (n := 34) (ty := 54) (by rfl) (by rfl) (by rfl) RY.out (by kernel_rfl) (we_len _) ?_; simp only [Act.put, List.setIfInBounds_toArray, List.set_cons_zero, List.set_cons_succ]) | (refine Txt.tl_rowN (n := 34) (ty := 54) (by rfl) (by rfl) (by rfl) RX.out (by kernel_rfl) (we_len _) ?_; simp only [Act.put, List.setIfInBounds_toArray, List.set_cons_zero, List.set_cons_succ]) | (refine Txt.tl_rowN (n := 32) (ty := 38) (by rfl) (by rfl) (by rfl) RU.out (by kernel_rfl) (by rw [List.length_map]; exact HU.out) ?_; simp only [Act.put, List.setIfInBounds_toArray, List.set_cons_zero, List.set_cons_succ])))
                    rw [HGe.out]
                    (repeat (first | ((with_reducible refine at_dt 65 ?_); refine Txt.tl_pure (v := .int .i64 ((i - 1 : Nat) : Int)) (by rfl) ?_ ?_; (focus (intro _; go_simp; try exact hwr)); simp only [Act.put, List.setIfInBounds_toArray, List.set_cons_zero, List.set_cons_succ]) | (refine Txt.tl_pure (v := ?_) (by rfl) ?_ ?_; rotate_left; (focus (intro _; go_simp; try with_reducible rfl)); simp only [Act.put, List.setIfInBounds_toArray, List.set_cons_zero, List.set_cons_succ]) | (refine Txt.tl_skip (by rfl) trivial ?_; simp only [Act.put, List.setIfInBounds_toArray, List.set_cons_zero, List.set_cons_succ]) | (refine Txt.tl_load (v := ?_) (by rfl) (by rfl) (by rfl) (by kernel_rfl) ?_ ?_; rotate_left; (focus assumption); simp only [Act.put, List.setIfInBounds_toArray, List.set_cons_zero, List.set_cons_succ]) | (refine Txt.tl_rowN (n := 34) (ty := 54) (by rfl) (by rfl) (by rfl) RY.out (by kernel_rfl) (we_len _) ?_; simp only [Act.put, List.setIfInBounds_toArray, List.set_cons_zero, List.set_cons_succ]) | (refine Txt.tl_rowN (n := 34) (ty := 54) (by rfl) (by rfl) (by rfl) RX.out (by kernel_rfl) (we_len _) ?_; simp only [Act.put, List.setIfInBounds_toArray, List.set_cons_zero, List.set_cons_succ]) | (refine Txt.tl_rowN (n := 32) (ty := 38) (by rfl) (by rfl) (by rfl) RU.out (by kernel_rfl) (by rw [List.length_map]; exact HU.out) ?_; simp only [Act.put, List.setIfInBounds_toArray, List.set_cons_zero, List.set_cons_succ])))
                    refine Mp.tl_look idKey Tryz.underlying49 (by rfl) rfl rfl ((show MuAt _ b bl bo Lm (addGs [] G) from HM.out.get 3 rfl).all.get 2 rfl) Sq.zeroB HU.out rfl (Sq.look_G (addGs [] G) x.u) ?_
                    simp only [Act.put, List.setIfInBounds_toArray, List.set_cons_zero, List.set_cons_succ]
                    rw [HL.out]
                    (repeat (first | ((with_reducible refine at_dt 65 ?_); refine Txt.tl_pure (v := .int .i64 ((i - 1 : Nat) : Int)) (by rfl) ?_ ?_; (focus (intro _; go_simp; try exact hwr)); simp only [Act.put, List.setIfInBounds_toArray, List.set_cons_zero, List.set_cons_succ]) | (refine Txt.tl_pure (v := ?_) (by rfl) ?_ ?_; rotate_left; (focus (intro _; go_simp; try with_reducible rfl)); simp only [Act.put, List.setIfInBounds_toArray, List.set_cons_zero, List.set_cons_succ]) | (refine Txt.tl_skip (by rfl) trivial ?_; simp only [Act.put, List.setIfInBounds_toArray, List.set_cons_zero, List.set_cons_succ]) | (refine Txt.tl_load (v := ?_) (by rfl) (by rfl) (by rfl) (by kernel_rfl) ?_ ?_; rotate_left; (focus assumption); simp only [Act.put, List.setIfInBounds_toArray, List.set_cons_zero, List.set_cons_succ]) | (refine Txt.tl_rowN (n := 34) (ty := 54) (by rfl) (by rfl) (by rfl) RY.out (by kernel_rfl) (we_len _) ?_; simp only [Act.put, List.setIfInBounds_toArray, List.set_cons_zero, List.set_cons_succ]) | (refine Txt.tl_rowN (n := 34) (ty := 54) (by rfl) (by rfl) (by rfl) RX.out (by kernel_rfl) (we_len _) ?_; simp only [Act.put, List.setIfInBounds_toArray, List.set_cons_zero, List.set_cons_succ]) | (refine Txt.tl_rowN (n := 32) (ty := 38) (by rfl) (by rfl) (by rfl) RU.out (by kernel_rfl) (by rw [List.length_map]; exact HU.out) ?_; simp only [Act.put, List.setIfInBounds_toArray, List.set_cons_zero, List.set_cons_succ])))
                    refine Txt.tl_nil ?_
                    clear c1 RX RY RU
                    go_wp2
                    have HM : Hid _ := HM.out.drew
                    have c0 := (show MuAt _ b bl bo Lm (addGs [] G) from HM.out.get 3 rfl).cells.1
                    have RX : Hid _ := HM.out.range 4 rfl
                    have RY : Hid _ := HM.out.range 4 rfl
                    have RU : Hid _ := rng_wu (HM.out.range 4 rfl)
                    refine Txt.wp_region_text (fun _ => True) [0, 0, 0, 1, 1, 4] (by kernel_rfl) (by kernel_rfl) trivial ?_
                    (repeat (first | ((with_reducible refine at_dt 65 ?_); refine Txt.tl_pure (v := .int .i64 ((i - 1 : Nat) : Int)) (by rfl) ?_ ?_; (focus (intro _; go_simp; try exact hwr)); simp only [Act.put, List.setIfInBounds_toArray, List.set_cons_zero, List.set_cons_succ]) | (refine Txt.tl_pure (v := ?_) (by rfl) ?_ ?_; rotate_left; (focus (intro _; go_simp; try with_reducible rfl)); simp only [Act.put, List.setIfInBounds_toArray, List.set_cons_zero, List.set_cons_succ]) | (refine Txt.tl_skip (by rfl) trivial ?_; simp only [Act.put, List.setIfInBounds_toArray, List.set_cons_zero, List.set_cons_succ]) | (refine Txt.tl_load (v := ?_) (by rfl) (by rfl) (by rfl) (by kernel_rfl) ?_ ?_; rotate_left; (focus assumption); simp only [Act.put, List.setIfInBounds_toArray, List.set_cons_zero, List.set_cons_succ]) | (refine Txt.tl_rowN (n := 34) (ty := 54) (by rfl) (by rfl) (by rfl) RY.out (by kernel_rfl) (we_len _) ?_; simp only [Act.put, List.setIfInBounds_toArray, List.set_cons_zero, List.set_cons_succ]) | (refine Txt.tl_rowN (n := 34) (ty := 54) (by rfl) (by rfl) (by rfl) RX.out (by kernel_rfl) (we_len _) ?_; simp only [Act.put, List.setIfInBounds_toArray, List.set_cons_zero, List.set_cons_succ]) | (refine Txt.tl_rowN (n := 32) (ty := 38) (by rfl) (by rfl) (by rfl) RU.out (by kernel_rfl) (by rw [List.length_map]; exact HU.out) ?_; simp only [Act.put, List.setIfInBounds_toArray, List.set_cons_zero, List.set_cons_succ])))
                    refine Txt.tl_loud (by rfl) ?_
                    refine Mp.wp_put wrKey Tryz.underlying48 rfl rfl ((show MuAt _ b bl bo Lm (addGs [] G) from HM.out.get 3 rfl).all.get 1 rfl) (k := x) trivial rfl (v := .bool true) rfl ?_
                    rw [put_dL]
                    intro w8 h8 k8
                    have HM : Hid _ := M.mto HM.out 3 rfl (MTo.of (M.setMap (show MuAt _ b bl bo Lm (addGs [] G) from HM.out.get 3 rfl).all 1 rfl h8 k8))
                    clear h8 k8 c0
                    refine ⟨trivial, ?_⟩
                    simp only [Act.put, List.setIfInBounds_toArray, List.set_cons_zero, List.set_cons_succ]
                    refine Txt.tl_nil ?_
                    go_wp2
                    go_roundw
                    case rel => exact ⟨i + 1, 4, addW Lm x, by omega, by go_num, rfl, HM.out.take 4, HI2.out⟩
                    case measure => simp [intOf]; omega
                  · have HL : Hid (decide (x.u ∈ addGs [] G) = false) := (HDg.out false).2 ⟨fun h => (by cases h), fun h => absurd h hm⟩
                    have HI2 : Hid (LwI s L G a (i + 1) e (addW Lm x)) := HI.out.good Hd.out HBg.out hm (.inr ⟨y, Hy.out, HLt.out⟩)
                    clear hm
                    go_wp2_with (first | ((with_reducible refine at_load 54 ?_); refine St.wl_load tyW rfl rfl rfl Rd.out (we_len x) ?_; simp only [Act.put, List.setIfInBounds_toArray, List.set_cons_zero, List.set_cons_succ]) | ((with_reducible refine at_alloc 54 ?_); refine St.wl_alloc tyW rfl rfl Hob.out ?_; simp only [Act.put, List.setIfInBounds_toArray, List.set_cons_zero, List.set_cons_succ]) | ((with_reducible refine at_store 54 ?_); refine St.wl_storeN (W := wr) tyW rfl rfl rfl rfl rfl Hob.out (show _ = Value.agg (we x).toArray from rfl) (we_sz _) rfl (encW.all _) ?_))
                    have HM : Hid _ := HM.out.drew
                    have c1 := (show MuAt _ b bl bo Lm (addGs [] G) from HM.out.get 3 rfl).cells.2
                    have RX : Hid _ := HM.out.range 4 rfl
                    have RY : Hid _ := HM.out.range 4 rfl
                    have RU : Hid _ := rng_wu (HM.out.range 4 rfl)
                    have RZ := (St.Own.slice (show St.Own 54 34 we _ (.slice (some ⟨g0, o0, none⟩) q lc) L from HM.out.get 1 rfl)).2.lay.resolve_left (by rw [Hq.out]; omega) |> fun ⟨_, _, e, _, hr⟩ => (by cases e; exact hr (i - 1) y Hy.out : World.rangeAt _ g0 (o0 + (i - 1) * 34) (we y))
                    have RY : Hid _ := RZ
                    clear RZ
                    refine Txt.wp_region_text (fun _ => True) [0, 0, 0, 0, 0, 0, 0, 1, 1, 4, 0, 0, 0, 0, 0, 0, 1, 0, 1, 1, 0] (by kernel_rfl) (by kernel_rfl) trivial ?_
                    (repeat (first | ((with_reducible refine at_dt 65 ?_); refine Txt.tl_pure (v := .int .i64 ((i - 1 : Nat) : Int)) (by rfl) ?_ ?_; (focus (intro _; go_simp; try exact hwr)); simp only [Act.put, List.setIfInBounds_toArray, List.set_cons_zero, List.set_cons_succ]) | (refine Txt.tl_pure (v := ?_) (by rfl) ?_ ?_; rotate_left; (focus (intro _; go_simp; try with_reducible rfl)); simp only [Act.put, List.setIfInBounds_toArray, List.set_cons_zero, List.set_cons_succ]) | (refine Txt.tl_skip (by rfl) trivial ?_; simp only [Act.put, List.setIfInBounds_toArray, List.set_cons_zero, List.set_cons_succ]) | (refine Txt.tl_load (v := ?_) (by rfl) (by rfl) (by rfl) (by kernel_rfl) ?_ ?_; rotate_left; (focus assumption); simp only [Act.put, List.setIfInBounds_toArray, List.set_cons_zero, List.set_cons_succ]) | (refine Txt.tl_rowN (n := 34) (ty := 54) (by rfl) (by rfl) (by rfl) RY.out (by kernel_rfl) (we_len _) ?_; simp only [Act.put, List.setIfInBounds_toArray, List.set_cons_zero, List.set_cons_succ]) | (refine Txt.tl_rowN (n := 34) (ty := 54) (by rfl) (by rfl) (by rfl) RX.out (by kernel_rfl) (we_len _) ?_; simp only [Act.put, List.setIfInBounds_toArray, List.set_cons_zero, List.set_cons_succ]) | (refine Txt.tl_rowN (n := 32) (ty := 38) (by rfl) (by rfl) (by rfl) RU.out (by kernel_rfl) (by rw [List.length_map]; exact HU.out) ?_; simp only [Act.put, List.setIfInBounds_toArray, List.set_cons_zero, List.set_cons_succ])))
                    refine Txt.tl_call Tryz.func19 (by kernel_rfl) (by kernel_rfl) (by rfl) (by rfl) (by rfl) (HC.out _) ?_
                    rintro e w7 ⟨rfl, k7⟩
                    have HM : Hid _ := HM.out.calm k7
                    clear k7
                    have c1 := (show MuAt _ b bl bo Lm (addGs [] G) from HM.out.get 3 rfl).cells.2
                    have RX : Hid _ := HM.out.range 4 rfl
                    have RU : Hid _ := rng_wu (HM.out.range 4 rfl)
                    refine ⟨_, rfl, trivial, ?_⟩
                    simp only [Act.put, List.setIfInBounds_toArray, List.set_cons_zero, List.set_cons_succ]
                    (repeat (first | ((with_reducible refine at_dt 65 ?_); refine Txt.tl_pure (v := .int .i64 ((i - 1 : Nat) : Int)) (by rfl) ?_ ?_; (focus (intro _; go_simp; try exact hwr)); simp only [Act.put, List.setIfInBounds_toArray, List.set_cons_zero, List.set_cons_succ]) | (refine Txt.tl_pure (v := ?_) (by rfl) ?_ ?_; rotate_left; (focus (intro _; go_simp; try with_reducible rfl)); simp only [Act.put, List.setIfInBounds_toArray, List.set_cons_zero, List.set_cons_succ]) | (refine Txt.tl_skip (by rfl) trivial ?_; simp only [Act.put, List.setIfInBounds_toArray, List.set_cons_zero, List.set_cons_succ]) | (refine Txt.tl_load (v := ?_) (by rfl) (by rfl) (by rfl) (by kernel_rfl) ?_ ?_; rotate_left; (focus assumption); simp only [Act.put, List.setIfInBounds_toArray, List.set_cons_zero, List.set_cons_succ]) | (refine Txt.tl_rowN (n := 34) (ty := 54) (by rfl) (by rfl) (by rfl) RY.out (by kernel_rfl) (we_len _) ?_; simp only [Act.put, List.setIfInBounds_toArray, List.set_cons_zero, List.set_cons_succ]) | (refine Txt.tl_rowN (n := 34) (ty := 54) (by rfl) (by rfl) (by rfl) RX.out (by kernel_rfl) (we_len _) ?_; simp only [Act.put, List.setIfInBounds_toArray, List.set_cons_zero, List.set_cons_succ]) | (refine Txt.tl_rowN (n := 32) (ty := 38) (by rfl) (by rfl) (by rfl) RU.out (by kernel_rfl) (by rw [List.length_map]; exact HU.out) ?_; simp only [Act.put, List.setIfInBounds_toArray, List.set_cons_zero, List.set_cons_succ])))
                    rw [HGe.out]
                    (repeat (first | ((with_reducible refine at_dt 65 ?_); refine Txt.tl_pure (v := .int .i64 ((i - 1 : Nat) : Int)) (by rfl) ?_ ?_; (focus (intro _; go_simp; try exact hwr)); simp only [Act.put, List.setIfInBounds_toArray, List.set_cons_zero, List.set_cons_succ]) | (refine Txt.tl_pure (v := ?_) (by rfl) ?_ ?_; rotate_left; (focus (intro _; go_simp; try with_reducible rfl)); simp only [Act.put, List.setIfInBounds_toArray, List.set_cons_zero, List.set_cons_succ]) | (refine Txt.tl_skip (by rfl) trivial ?_; simp only [Act.put, List.setIfInBounds_toArray, List.set_cons_zero, List.set_cons_succ]) | (refine Txt.tl_load (v := ?_) (by rfl) (by rfl) (by rfl) (by kernel_rfl) ?_ ?_; rotate_left; (focus assumption); simp only [Act.put, List.setIfInBounds_toArray, List.set_cons_zero, List.set_cons_succ]) | (refine Txt.tl_rowN (n := 34) (ty := 54) (by rfl) (by rfl) (by rfl) RY.out (by kernel_rfl) (we_len _) ?_; simp only [Act.put, List.setIfInBounds_toArray, List.set_cons_zero, List.set_cons_succ]) | (refine Txt.tl_rowN (n := 34) (ty := 54) (by rfl) (by rfl) (by rfl) RX.out (by kernel_rfl) (we_len _) ?_; simp only [Act.put, List.setIfInBounds_toArray, List.set_cons_zero, List.set_cons_succ]) | (refine Txt.tl_rowN (n := 32) (ty := 38) (by rfl) (by rfl) (by rfl) RU.out (by kernel_rfl) (by rw [List.length_map]; exact HU.out) ?_; simp only [Act.put, List.setIfInBounds_toArray, List.set_cons_zero, List.set_cons_succ])))
                    refine Mp.tl_look idKey Tryz.underlying49 (by rfl) rfl rfl ((show MuAt _ b bl bo Lm (addGs [] G) from HM.out.get 3 rfl).all.get 2 rfl) Sq.zeroB HU.out rfl (Sq.look_G (addGs [] G) x.u) ?_
                    simp only [Act.put, List.setIfInBounds_toArray, List.set_cons_zero, List.set_cons_succ]
                    rw [HL.out]
                    (repeat (first | ((with_reducible refine at_dt 65 ?_); refine Txt.tl_pure (v := .int .i64 ((i - 1 : Nat) : Int)) (by rfl) ?_ ?_; (focus (intro _; go_simp; try exact hwr)); simp only [Act.put, List.setIfInBounds_toArray, List.set_cons_zero, List.set_cons_succ]) | (refine Txt.tl_pure (v := ?_) (by rfl) ?_ ?_; rotate_left; (focus (intro _; go_simp; try with_reducible rfl)); simp only [Act.put, List.setIfInBounds_toArray, List.set_cons_zero, List.set_cons_succ]) | (refine Txt.tl_skip (by rfl) trivial ?_; simp only [Act.put, List.setIfInBounds_toArray, List.set_cons_zero, List.set_cons_succ]) | (refine Txt.tl_load (v := ?_) (by rfl) (by rfl) (by rfl) (by kernel_rfl) ?_ ?_; rotate_left; (focus assumption); simp only [Act.put, List.setIfInBounds_toArray, List.set_cons_zero, List.set_cons_succ]) | (refine Txt.tl_rowN (n := 34) (ty := 54) (by rfl) (by rfl) (by rfl) RY.out (by kernel_rfl) (we_len _) ?_; simp only [Act.put, List.setIfInBounds_toArray, List.set_cons_zero, List.set_cons_succ]) | (refine Txt.tl_rowN (n := 34) (ty := 54) (by rfl) (by rfl) (by rfl) RX.out (by kernel_rfl) (we_len _) ?_; simp only [Act.put, List.setIfInBounds_toArray, List.set_cons_zero, List.set_cons_succ]) | (refine Txt.tl_rowN (n := 32) (ty := 38) (by rfl) (by rfl) (by rfl) RU.out (by kernel_rfl) (by rw [List.length_map]; exact HU.out) ?_; simp only [Act.put, List.setIfInBounds_toArray, List.set_cons_zero, List.set_cons_succ])))
                    refine Txt.tl_nil ?_
                    clear c1 RX RY RU
                    go_wp2
                    have HM : Hid _ := HM.out.drew
                    have c0 := (show MuAt _ b bl bo Lm (addGs [] G) from HM.out.get 3 rfl).cells.1
                    have RX : Hid _ := HM.out.range 4 rfl
                    have RY : Hid _ := HM.out.range 4 rfl
                    have RU : Hid _ := rng_wu (HM.out.range 4 rfl)
                    refine Txt.wp_region_text (fun _ => True) [0, 0, 0, 1, 1, 4] (by kernel_rfl) (by kernel_rfl) trivial ?_
                    (repeat (first | ((with_reducible refine at_dt 65 ?_); refine Txt.tl_pure (v := .int .i64 ((i - 1 : Nat) : Int)) (by rfl) ?_ ?_; (focus (intro _; go_simp; try exact hwr)); simp only [Act.put, List.setIfInBounds_toArray, List.set_cons_zero, List.set_cons_succ]) | (refine Txt.tl_pure (v := ?_) (by rfl) ?_ ?_; rotate_left; (focus (intro _; go_simp; try with_reducible rfl)); simp only [Act.put, List.setIfInBounds_toArray, List.set_cons_zero, List.set_cons_succ]) | (refine Txt.tl_skip (by rfl) trivial ?_; simp only [Act.put, List.setIfInBounds_toArray, List.set_cons_zero, List.set_cons_succ]) | (refine Txt.tl_load (v := ?_) (by rfl) (by rfl) (by rfl) (by kernel_rfl) ?_ ?_; rotate_left; (focus assumption); simp only [Act.put, List.setIfInBounds_toArray, List.set_cons_zero, List.set_cons_succ]) | (refine Txt.tl_rowN (n := 34) (ty := 54) (by rfl) (by rfl) (by rfl) RY.out (by kernel_rfl) (we_len _) ?_; simp only [Act.put, List.setIfInBounds_toArray, List.set_cons_zero, List.set_cons_succ]) | (refine Txt.tl_rowN (n := 34) (ty := 54) (by rfl) (by rfl) (by rfl) RX.out (by kernel_rfl) (we_len _) ?_; simp only [Act.put, List.setIfInBounds_toArray, List.set_cons_zero, List.set_cons_succ]) | (refine Txt.tl_rowN (n := 32) (ty := 38) (by rfl) (by rfl) (by rfl) RU.out (by kernel_rfl) (by rw [List.length_map]; exact HU.out) ?_; simp only [Act.put, List.setIfInBounds_toArray, List.set_cons_zero, List.set_cons_succ])))
                    refine Txt.tl_loud (by rfl) ?_
                    refine Mp.wp_put wrKey Tryz.underlying48 rfl rfl ((show MuAt _ b bl bo Lm (addGs [] G) from HM.out.get 3 rfl).all.get 1 rfl) (k := x) trivial rfl (v := .bool true) rfl ?_
                    rw [put_dL]
                    intro w8 h8 k8
                    have HM : Hid _ := M.mto HM.out 3 rfl (MTo.of (M.setMap (show MuAt _ b bl bo Lm (addGs [] G) from HM.out.get 3 rfl).all 1 rfl h8 k8))
                    clear h8 k8 c0
                    refine ⟨trivial, ?_⟩
                    simp only [Act.put, List.setIfInBounds_toArray, List.set_cons_zero, List.set_cons_succ]
                    refine Txt.tl_nil ?_
                    go_wp2
                    go_roundw
                    case rel => exact ⟨i + 1, e, addW Lm x, by omega, by go_num, rfl, HM.out.take 4, HI2.out⟩
                    case measure => simp [intOf]; omega
                · have HI2 : Hid (LwI s L G a (i + 1) 4 (addW Lm x)) := HI.out.bad Hd.out HBg.out (fine_ord Hd.out Hy.out hi0 (fun h => hcn (by rw [← hc]; exact (ltW_iff y x).2 h)))
                  have HGe : Hid (decide (0 ≤ c) = true) := decide_eq_true (by omega)
                  clear hy hc hcn
                  go_wp2_with (first | ((with_reducible refine at_load 54 ?_); refine St.wl_load tyW rfl rfl rfl Rd.out (we_len x) ?_; simp only [Act.put, List.setIfInBounds_toArray, List.set_cons_zero, List.set_cons_succ]) | ((with_reducible refine at_alloc 54 ?_); refine St.wl_alloc tyW rfl rfl Hob.out ?_; simp only [Act.put, List.setIfInBounds_toArray, List.set_cons_zero, List.set_cons_succ]) | ((with_reducible refine at_store 54 ?_); refine St.wl_storeN (W := wr) tyW rfl rfl rfl rfl rfl Hob.out (show _ = Value.agg (we x).toArray from rfl) (we_sz _) rfl (encW.all _) ?_))
                  have HM : Hid _ := HM.out.drew
                  have c1 := (show MuAt _ b bl bo Lm (addGs [] G) from HM.out.get 3 rfl).cells.2
                  have RX : Hid _ := HM.out.range 4 rfl
                  have RY : Hid _ := HM.out.range 4 rfl
                  have RU : Hid _ := rng_wu (HM.out.range 4 rfl)
                  have RZ := (St.Own.slice (show St.Own 54 34 we _ (.slice (some ⟨g0, o0, none⟩) q lc) L from HM.out.get 1 rfl)).2.lay.resolve_left (by rw [Hq.out]; omega) |> fun ⟨_, _, e, _, hr⟩ => (by cases e; exact hr (i - 1) y Hy.out : World.rangeAt _ g0 (o0 + (i - 1) * 34) (we y))
                  have RY : Hid _ := RZ
                  clear RZ
                  refine Txt.wp_region_text (fun _ => True) [0, 0, 0, 0, 0, 0, 0, 1, 1, 4, 0, 0, 0, 0, 0, 0, 1, 0, 1, 1, 0] (by kernel_rfl) (by kernel_rfl) trivial ?_
                  (repeat (first | ((with_reducible refine at_dt 65 ?_); refine Txt.tl_pure (v := .int .i64 ((i - 1 : Nat) : Int)) (by rfl) ?_ ?_; (focus (intro _; go_simp; try exact hwr)); simp only [Act.put, List.setIfInBounds_toArray, List.set_cons_zero, List.set_cons_succ]) | (refine Txt.tl_pure (v := ?_) (by rfl) ?_ ?_; rotate_left; (focus (intro _; go_simp; try with_reducible rfl)); simp only [Act.put, List.setIfInBounds_toArray, List.set_cons_zero, List.set_cons_succ]) | (refine Txt.tl_skip (by rfl) trivial ?_; simp only [Act.put, List.setIfInBounds_toArray, List.set_cons_zero, List.set_cons_succ]) | (refine Txt.tl_load (v := ?_) (by rfl) (by rfl) (by rfl) (by kernel_rfl) ?_ ?_; rotate_left; (focus assumption); simp only [Act.put, List.setIfInBounds_toArray, List.set_cons_zero, List.set_cons_succ]) | (refine Txt.tl_rowN (n := 34) (ty := 54) (by rfl) (by rfl) (by rfl) RY.out (by kernel_rfl) (we_len _) ?_; simp only [Act.put, List.setIfInBounds_toArray, List.set_cons_zero, List.set_cons_succ]) | (refine Txt.tl_rowN (n := 34) (ty := 54) (by rfl) (by rfl) (by rfl) RX.out (by kernel_rfl) (we_len _) ?_; simp only [Act.put, List.setIfInBounds_toArray, List.set_cons_zero, List.set_cons_succ]) | (refine Txt.tl_rowN (n := 32) (ty := 38) (by rfl) (by rfl) (by rfl) RU.out (by kernel_rfl) (by rw [List.length_map]; exact HU.out) ?_; simp only [Act.put, List.setIfInBounds_toArray, List.set_cons_zero, List.set_cons_succ])))
                  refine Txt.tl_call Tryz.func19 (by kernel_rfl) (by kernel_rfl) (by rfl) (by rfl) (by rfl) (HC.out _) ?_
                  rintro e w7 ⟨rfl, k7⟩
                  have HM : Hid _ := HM.out.calm k7
                  clear k7
                  have c1 := (show MuAt _ b bl bo Lm (addGs [] G) from HM.out.get 3 rfl).cells.2
                  have RX : Hid _ := HM.out.range 4 rfl
                  have RU : Hid _ := rng_wu (HM.out.range 4 rfl)
                  refine ⟨_, rfl, trivial, ?_⟩
                  simp only [Act.put, List.setIfInBounds_toArray, List.set_cons_zero, List.set_cons_succ]
                  (repeat (first | ((with_reducible refine at_dt 65 ?_); refine Txt.tl_pure (v := .int .i64 ((i - 1 : Nat) : Int)) (by rfl) ?_ ?_; (focus (intro _; go_simp; try exact hwr)); simp only [Act.put, List.setIfInBounds_toArray, List.set_cons_zero, List.set_cons_succ]) | (refine Txt.tl_pure (v := ?_) (by rfl) ?_ ?_; rotate_left; (focus (intro _; go_simp; try with_reducible rfl)); simp only [Act.put, List.setIfInBounds_toArray, List.set_cons_zero, List.set_cons_succ]) | (refine Txt.tl_skip (by rfl) trivial ?_; simp only [Act.put, List.setIfInBounds_toArray, List.set_cons_zero, List.set_cons_succ]) | (refine Txt.tl_load (v := ?_) (by rfl) (by rfl) (by rfl) (by kernel_rfl) ?_ ?_; rotate_left; (focus assumption); simp only [Act.put, List.setIfInBounds_toArray, List.set_cons_zero, List.set_cons_succ]) | (refine Txt.tl_rowN (n := 34) (ty := 54) (by rfl) (by rfl) (by rfl) RY.out (by kernel_rfl) (we_len _) ?_; simp only [Act.put, List.setIfInBounds_toArray, List.set_cons_zero, List.set_cons_succ]) | (refine Txt.tl_rowN (n := 34) (ty := 54) (by rfl) (by rfl) (by rfl) RX.out (by kernel_rfl) (we_len _) ?_; simp only [Act.put, List.setIfInBounds_toArray, List.set_cons_zero, List.set_cons_succ]) | (refine Txt.tl_rowN (n := 32) (ty := 38) (by rfl) (by rfl) (by rfl) RU.out (by kernel_rfl) (by rw [List.length_map]; exact HU.out) ?_; simp only [Act.put, List.setIfInBounds_toArray, List.set_cons_zero, List.set_cons_succ])))
                  rw [HGe.out]
                  (repeat (first | ((with_reducible refine at_dt 65 ?_); refine Txt.tl_pure (v := .int .i64 ((i - 1 : Nat) : Int)) (by rfl) ?_ ?_; (focus (intro _; go_simp; try exact hwr)); simp only [Act.put, List.setIfInBounds_toArray, List.set_cons_zero, List.set_cons_succ]) | (refine Txt.tl_pure (v := ?_) (by rfl) ?_ ?_; rotate_left; (focus (intro _; go_simp; try with_reducible rfl)); simp only [Act.put, List.setIfInBounds_toArray, List.set_cons_zero, List.set_cons_succ]) | (refine Txt.tl_skip (by rfl) trivial ?_; simp only [Act.put, List.setIfInBounds_toArray, List.set_cons_zero, List.set_cons_succ]) | (refine Txt.tl_load (v := ?_) (by rfl) (by rfl) (by rfl) (by kernel_rfl) ?_ ?_; rotate_left; (focus assumption); simp only [Act.put, List.setIfInBounds_toArray, List.set_cons_zero, List.set_cons_succ]) | (refine Txt.tl_rowN (n := 34) (ty := 54) (by rfl) (by rfl) (by rfl) RY.out (by kernel_rfl) (we_len _) ?_; simp only [Act.put, List.setIfInBounds_toArray, List.set_cons_zero, List.set_cons_succ]) | (refine Txt.tl_rowN (n := 34) (ty := 54) (by rfl) (by rfl) (by rfl) RX.out (by kernel_rfl) (we_len _) ?_; simp only [Act.put, List.setIfInBounds_toArray, List.set_cons_zero, List.set_cons_succ]) | (refine Txt.tl_rowN (n := 32) (ty := 38) (by rfl) (by rfl) (by rfl) RU.out (by kernel_rfl) (by rw [List.length_map]; exact HU.out) ?_; simp only [Act.put, List.setIfInBounds_toArray, List.set_cons_zero, List.set_cons_succ])))
                  refine Txt.tl_nil ?_
                  clear c1 RX RY RU
                  go_wp2
                  have HM : Hid _ := HM.out.drew
                  have c0 := (show MuAt _ b bl bo Lm (addGs [] G) from HM.out.get 3 rfl).cells.1
                  have RX : Hid _ := HM.out.range 4 rfl
                  have RY : Hid _ := HM.out.range 4 rfl
                  have RU : Hid _ := rng_wu (HM.out.range 4 rfl)
                  refine Txt.wp_region_text (fun _ => True) [0, 0, 0, 1, 1, 4] (by kernel_rfl) (by kernel_rfl) trivial ?_
                  (repeat (first | ((with_reducible refine at_dt 65 ?_); refine Txt.tl_pure (v := .int .i64 ((i - 1 : Nat) : Int)) (by rfl) ?_ ?_; (focus (intro _; go_simp; try exact hwr)); simp only [Act.put, List.setIfInBounds_toArray, List.set_cons_zero, List.set_cons_succ]) | (refine Txt.tl_pure (v := ?_) (by rfl) ?_ ?_; rotate_left; (focus (intro _; go_simp; try with_reducible rfl)); simp only [Act.put, List.setIfInBounds_toArray, List.set_cons_zero, List.set_cons_succ]) | (refine Txt.tl_skip (by rfl) trivial ?_; simp only [Act.put, List.setIfInBounds_toArray, List.set_cons_zero, List.set_cons_succ]) | (refine Txt.tl_load (v := ?_) (by rfl) (by rfl) (by rfl) (by kernel_rfl) ?_ ?_; rotate_left; (focus assumption); simp only [Act.put, List.setIfInBounds_toArray, List.set_cons_zero, List.set_cons_succ]) | (refine Txt.tl_rowN (n := 34) (ty := 54) (by rfl) (by rfl) (by rfl) RY.out (by kernel_rfl) (we_len _) ?_; simp only [Act.put, List.setIfInBounds_toArray, List.set_cons_zero, List.set_cons_succ]) | (refine Txt.tl_rowN (n := 34) (ty := 54) (by rfl) (by rfl) (by rfl) RX.out (by kernel_rfl) (we_len _) ?_; simp only [Act.put, List.setIfInBounds_toArray, List.set_cons_zero, List.set_cons_succ]) | (refine Txt.tl_rowN (n := 32) (ty := 38) (by rfl) (by rfl) (by rfl) RU.out (by kernel_rfl) (by rw [List.length_map]; exact HU.out) ?_; simp only [Act.put, List.setIfInBounds_toArray, List.set_cons_zero, List.set_cons_succ])))
                  refine Txt.tl_loud (by rfl) ?_
                  refine Mp.wp_put wrKey Tryz.underlying48 rfl rfl ((show MuAt _ b bl bo Lm (addGs [] G) from HM.out.get 3 rfl).all.get 1 rfl) (k := x) trivial rfl (v := .bool true) rfl ?_
                  rw [put_dL]
                  intro w8 h8 k8
                  have HM : Hid _ := M.mto HM.out 3 rfl (MTo.of (M.setMap (show MuAt _ b bl bo Lm (addGs [] G) from HM.out.get 3 rfl).all 1 rfl h8 k8))
                  clear h8 k8 c0
                  refine ⟨trivial, ?_⟩
                  simp only [Act.put, List.setIfInBounds_toArray, List.set_cons_zero, List.set_cons_succ]
                  refine Txt.tl_nil ?_
                  go_wp2
                  go_roundw
                  case rel => exact ⟨i + 1, 4, addW Lm x, by omega, by go_num, rfl, HM.out.take 4, HI2.out⟩
                  case measure => simp [intOf]; omega
          · obtain rfl : q = i := by omega
            have HTk : Hid (L.take q = L) := List.take_of_length_le (by rw [Hq.out]; exact Nat.le_refl _)
            have HCk : Hid (∀ x ∈ L, badW x = false) := fun d hd => HI.out.ck d (by rw [HTk.out]; exact hd)
            rcases HI.out.zf with he | he
            · subst he
              obtain ⟨hz1, hz2, hz3, hz4⟩ := HI.out.z rfl
              rw [HTk.out] at hz3 hz4
              have HFi : Hid (FineW s L G a) := ⟨hz1, hz3, hz2, hz4⟩
              clear hz1 hz2 hz3 hz4
              go_wp2
              go_ret2
              exact ⟨L, G, a, 0, 0, _, rfl, HR.out, .inr ⟨rfl, .inr ⟨HCk.out, .inl ⟨rfl, HFi.out⟩⟩⟩, HM.out.keep, fun h => absurd rfl h, fun _ => ⟨b, bl, bo, Lm, rfl, HM.out.sub _ [3] (by decide) rfl, HI.out.nd, fun x => by rw [HI.out.mem, HTk.out]⟩⟩
            · subst he
              go_wp2
              go_ret2
              exact ⟨L, G, a, 0, 4, _, rfl, HR.out, .inr ⟨rfl, .inr ⟨HCk.out, .inr ⟨rfl, HI.out.f rfl⟩⟩⟩, HM.out.keep, fun _ => rfl, fun h => (by cases h)⟩
end Mu
end Go.Proofs.YtgpimeobkacniaaGreat


namespace Go.Proofs.YtgpimeobkacniaaGreat
open Go.RowKit
namespace Mu
open Oct Ids Mp Seg
open Mem (M It blk ids rows rd)
open OctRd (be_len)
open Sq (dG addG)
section
open Classical
/-- Writings, sorted, each once; pairs, sorted, each once. -/
noncomputable def srtW (L : List Wr) : List Wr := setU (r := ltW) L
noncomputable def srtP (L : List Pr) : List Pr := setU (r := ltP) L
theorem srtW_pw (L : List Wr) : (srtW L).Pairwise ltW := fold_srt (r := ltW) (fun _ _ _ => ltW_trans) ltW_tri L [] List.Pairwise.nil
theorem srtP_pw (L : List Pr) : (srtP L).Pairwise ltP := fold_srt (r := ltP) (fun _ _ _ => ltP_trans) ltP_tri L [] List.Pairwise.nil
theorem mem_srtW (L : List Wr) (x : Wr) : x ∈ srtW L ↔ x ∈ L := mem_setU (r := ltW) L x
theorem mem_srtP (L : List Pr) (x : Pr) : x ∈ srtP L ↔ x ∈ L := mem_setU (r := ltP) L x
end
theorem ltW_asym (a b : Wr) (h : ltW a b) : ¬ ltW b a := fun h' => ltW_irr a (ltW_trans h h')
theorem srtW_is {X L : List Wr} (h : X.Pairwise ltW) (hm : ∀ x, x ∈ X ↔ x ∈ L) : X = srtW L := Sq.pw_unique ltW_asym _ _ h (srtW_pw L) (fun x => by rw [hm, mem_srtW])
theorem srtP_is {X L : List Pr} (h : X.Pairwise ltP) (hm : ∀ x, x ∈ X ↔ x ∈ L) : X = srtP L := Sq.pw_unique ltP_asym _ _ h (srtP_pw L) (fun x => by rw [hm, mem_srtP])
theorem srtW_congr {L L2 : List Wr} (h : ∀ x, x ∈ L ↔ x ∈ L2) : srtW L = srtW L2 := srtW_is (srtW_pw L) (fun x => by rw [mem_srtW, h])
theorem srtP_congr {L L2 : List Pr} (h : ∀ x, x ∈ L ↔ x ∈ L2) : srtP L = srtP L2 := srtP_is (srtP_pw L) (fun x => by rw [mem_srtP, h])
theorem mem_kv {L : List Wr} {p : Pr} : p ∈ L.map kv ↔ ∃ x ∈ L, kv x = p := List.mem_map
theorem pw_nodup {α : Type} {r : α → α → Prop} (hi : ∀ x, ¬ r x x) {l : List α} (h : l.Pairwise r) : l.Nodup := List.Pairwise.imp (fun {a b} (h : r a b) => show a ≠ b from fun e => by subst e; exact hi _ h) h
theorem srtW_len {L : List Wr} : (srtW L).length ≤ L.length := nodup_len (pw_nodup ltW_irr (srtW_pw L)) (fun y hy => (mem_srtW L y).1 hy)
/-- What a map holds behind these calls. -/
structure Ob (C : List Ac) (L : List Wr) (O : List Wd) : Prop where
  nd : L.Nodup
  mem : ∀ y, y ∈ L ↔ (∃ a ∈ C, cdW a.x = 0 ∧ y = a.x) ∧ y.u ∉ O
  om : ∀ u, u ∈ O ↔ ∃ a ∈ C, cdW a.x = 0 ∧ u ∈ a.ov
  ol : O.length ≤ 12 * C.length
  ev : ∀ u ∈ O, u.length = 32
theorem Ob.nil : Ob [] [] [] := ⟨List.nodup_nil, fun y => by simp, fun u => by simp, Nat.le_refl _, fun u hu => by cases hu⟩
theorem Ob.step {C : List Ac} {L : List Wr} {O : List Wd} (h : Ob C L O) (a : Ac) (h12 : a.ov.length ≤ 12) (h32 : ∀ u ∈ a.ov, u.length = 32) {L' : List Wr} (hn : L'.Nodup) (hm : ∀ y, y ∈ L' ↔ if cdW a.x = 0 then (y ∈ L ∨ y = a.x) ∧ y.u ∉ addGs O a.ov else y ∈ L) : Ob (C ++ [a]) L' (goO O a) := by
  by_cases hc : cdW a.x = 0
  · have e : goO O a = addGs O a.ov := if_pos hc
    rw [e]
    have hom : ∀ u, u ∈ addGs O a.ov ↔ ∃ b ∈ C ++ [a], cdW b.x = 0 ∧ u ∈ b.ov := fun u => by
      rw [mem_addGs, h.om]
      constructor
      · rintro (⟨b, hb, h1⟩ | h1)
        · exact ⟨b, List.mem_append_left _ hb, h1⟩
        · exact ⟨a, by simp, hc, h1⟩
      · rintro ⟨b, hb, h1⟩
        rcases List.mem_append.1 hb with hb | hb
        · exact .inl ⟨b, hb, h1⟩
        · obtain rfl := List.mem_singleton.1 hb
          exact .inr h1.2
    refine ⟨hn, fun y => ?_, hom, ?_, fun u hu => ?_⟩
    · rw [hm, if_pos hc, h.mem]
      constructor
      · rintro ⟨⟨⟨b, hb, h1⟩, _⟩ | rfl, h3⟩
        · exact ⟨⟨b, List.mem_append_left _ hb, h1⟩, h3⟩
        · exact ⟨⟨a, by simp, hc, rfl⟩, h3⟩
      · rintro ⟨⟨b, hb, h1⟩, h3⟩
        refine ⟨?_, h3⟩
        rcases List.mem_append.1 hb with hb | hb
        · exact .inl ⟨⟨b, hb, h1⟩, fun h4 => h3 ((mem_addGs _ _ _).2 (.inl h4))⟩
        · obtain rfl := List.mem_singleton.1 hb
          exact .inr h1.2
    · have := addGs_len a.ov O
      have := h.ol
      rw [List.length_append]
      simp
      omega
    · rcases (mem_addGs _ _ _).1 hu with h1 | h1
      · exact h.ev u h1
      · exact h32 u h1
  · have e : goO O a = O := if_neg hc
    rw [e]
    refine ⟨hn, fun y => ?_, fun u => ?_, ?_, h.ev⟩
    · rw [hm, if_neg hc, h.mem]
      refine and_congr_left fun _ => ⟨fun ⟨b, hb, h1⟩ => ⟨b, List.mem_append_left _ hb, h1⟩, fun ⟨b, hb, h1⟩ => ?_⟩
      rcases List.mem_append.1 hb with hb | hb
      · exact ⟨b, hb, h1⟩
      · obtain rfl := List.mem_singleton.1 hb
        exact absurd h1.1 hc
    · rw [h.om]
      refine ⟨fun ⟨b, hb, h1⟩ => ⟨b, List.mem_append_left _ hb, h1⟩, fun ⟨b, hb, h1⟩ => ?_⟩
      rcases List.mem_append.1 hb with hb | hb
      · exact ⟨b, hb, h1⟩
      · obtain rfl := List.mem_singleton.1 hb
        exact absurd h1.1 hc
    · have := h.ol
      rw [List.length_append]
      simp
      omega
section
variable {C C2 : List Ac} {L L2 : List Wr} {O O2 : List Wd}
theorem Ob.len (h : Ob C L O) : L.length ≤ C.length := by
  have := nodup_len (U := C.map (·.x)) h.nd (fun y hy => by
    obtain ⟨⟨a, ha, _, e⟩, _⟩ := (h.mem y).1 hy
    exact List.mem_map.2 ⟨a, ha, e.symm⟩)
  rwa [List.length_map] at this
theorem Ob.small (h : Ob C L O) : Small L := fun x hx => by
  obtain ⟨⟨a, _, hc, rfl⟩, _⟩ := (h.mem x).1 hx
  unfold cdW at hc
  split at hc
  · cases hc
  · omega
theorem Ob.uniq (h : Ob C L O) (h2 : Ob C2 L2 O2) (hc : ∀ a, a ∈ C ↔ a ∈ C2) : (∀ y, y ∈ L ↔ y ∈ L2) ∧ ∀ u, u ∈ O ↔ u ∈ O2 := by
  have ho : ∀ u, u ∈ O ↔ u ∈ O2 := fun u => by
    rw [h.om, h2.om]
    exact ⟨fun ⟨a, ha, h1⟩ => ⟨a, (hc a).1 ha, h1⟩, fun ⟨a, ha, h1⟩ => ⟨a, (hc a).2 ha, h1⟩⟩
  refine ⟨fun y => ?_, ho⟩
  rw [h.mem, h2.mem, ho]
  exact and_congr_left fun _ => ⟨fun ⟨a, ha, h1⟩ => ⟨a, (hc a).1 ha, h1⟩, fun ⟨a, ha, h1⟩ => ⟨a, (hc a).2 ha, h1⟩⟩
theorem Ob.again (h : Ob C L O) (hn : L2.Nodup) (hm : ∀ y, y ∈ L2 ↔ y ∈ L) (ho : ∀ u, u ∈ O2 ↔ u ∈ O) (hl : O2.length ≤ O.length) : Ob C L2 O2 :=
  ⟨hn, fun y => by rw [hm, h.mem, ho], fun u => by rw [ho, h.om], Nat.le_trans hl h.ol, fun u hu => h.ev u ((ho u).1 hu)⟩
/-- What Put says. -/
noncomputable def putT (L : List Wr) (O : List Wd) : ByteArray := ⟨(putW (srtW L) (IdL.setL O)).toArray⟩
theorem putT_congr (h1 : ∀ y, y ∈ L ↔ y ∈ L2) (h2 : ∀ u, u ∈ O ↔ u ∈ O2) : putT L O = putT L2 O2 := by
  unfold putT
  rw [srtW_congr h1, IdL.setL_congr h2]
theorem setL_len2 (O : List Wd) : (IdL.setL O).length ≤ O.length := IdL.setL_len O
theorem putT_size (h : Ob C L O) (hC : C.length ≤ 60) : (putT L O).size ≤ 30000 := by
  have h1 := h.len
  have h2 := h.ol
  have h3 : (srtW L).length ≤ L.length := srtW_len
  have h4 := wrB_len (srtW L) (fun x hx => h.small x ((mem_srtW L x).1 hx))
  have h5 := Sq.flat32 (IdL.setL O) (IdL.len_32 h.ev)
  have h6 := setL_len2 O
  show (putW (srtW L) (IdL.setL O)).toArray.size ≤ 30000
  rw [List.size_toArray]
  unfold putW
  rw [List.length_append, List.length_append, List.length_append, be_len, be_len, h5]
  omega
theorem put_t {w : World} {b bl bo : Nat} (h : Ob C L O) (hC : C.length ≤ 60) (hs : MuAt w b bl bo L O) :
    Calls Tryz.prog 7 #[.pointer (some ⟨b, 0, none⟩)] w fun e w' => e = .returned (.string (putT L O)) ∧ MTo w w' b bl bo L O :=
  (mput_any w b bl bo L O hs h.nd (by have := h.len; omega) h.small (by have := h.ol; omega) (IdL.setL O) (fun K hK => IdL.setL_congr hK)).mono fun e w' ⟨⟨X, he, h1, h2, _⟩, ht⟩ => by
    rw [srtW_is h1 h2] at he
    exact ⟨he, ht⟩
theorem list_t {w : World} {b bl bo : Nat} (h : Ob C L O) (hC : C.length ≤ 60) (hs : MuAt w b bl bo L O) :
    Calls Tryz.prog 9 #[.pointer (some ⟨b, 0, none⟩)] w fun e w' => ∃ v, e = .returned v ∧ M (mfoot b bl bo) w w' [muI b bl bo L O, rP v (srtP (L.map kv))] :=
  (mlist_any w b bl bo L O hs h.nd (by have := h.len; omega)).mono fun e w' ⟨v, l, he, hM, h1, h2, _⟩ => by
    rw [srtP_is (L := L.map kv) h1 (fun p => by rw [h2, mem_kv])] at hM
    exact ⟨v, he, hM⟩
/-- What is put is loaded. -/
theorem load_put {w w' : World} {e : Ending} (h : Ob C L O) (hC : C.length ≤ 60) (hl : WLdPost w (putT L O) e w') : ∃ (q ql qo : Nat) (L' : List Wr) (O' : List Wd), e = .returned (.tuple #[.pointer (some ⟨q, 0, none⟩), .int .i64 0]) ∧ M (fun _ => False) w w' [muI q ql qo L' O'] ∧ Ob C L' O' := by
  obtain ⟨X, G2, a, b, v, p, he, hR, hV, _, _, hz⟩ := hl
  have hx : (srtW L).length ≤ L.length := srtW_len
  have h1 := h.len
  have h2 := h.ol
  have h6 := setL_len2 O
  have hsm : Small (srtW L) := fun x hx => h.small x ((mem_srtW L x).1 hx)
  obtain ⟨rfl, rfl, rfl, rfl⟩ := hR.uniq (rd_of_put (X := srtW L) (G := IdL.setL O) hsm (IdL.len_32 h.ev) (by omega) (by omega))
  have hv := hV.uniq (fine_put (srtW_pw L) (IdL.setL_srt O) hsm (fun x hx => by
    rw [IdL.mem_setL]
    exact ((h.mem x).1 ((mem_srtW L x).1 hx)).2))
  subst hv
  obtain ⟨q, ql, qo, Lm, hp, m, hn, hm⟩ := hz rfl
  rw [hp] at he
  exact ⟨q, ql, qo, Lm, _, he, m, h.again hn (fun y => by rw [hm, mem_srtW]) (fun u => by rw [mem_addGs, IdL.mem_setL]; simp) (by have := addGs_len (IdL.setL O) []; simp at this; omega)⟩
end
theorem at_callW {P : Program} {f : Nat} {w : World} {Q : Ending → World → Prop} (args : Array Value) (h : Calls P f args w Q) : Calls P f args w Q := h
end Mu
end Go.Proofs.YtgpimeobkacniaaGreat
