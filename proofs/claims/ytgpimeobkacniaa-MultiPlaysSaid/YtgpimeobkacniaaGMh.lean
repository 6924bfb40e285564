/-
  Chapter 24: Put. Chapter 24: what a map of writings holds behind some calls; put and loaded.
-/
import Derived.Test.YtgpimeobkacniaaGMb
import Derived.Test.YtgpimeobkacniaaGMc
import Derived.Test.YtgpimeobkacniaaSqI
set_option linter.unusedVariables false
set_option linter.unusedSimpArgs false

namespace Go.Proofs.Ytgpimeobkacniaa
open Go.RowKit
namespace Mu
open Oct Ids Mp
open Mem (M It blk ids rows)
open OctRd (be_len)
open Sq (dG addG put_dG look_G zeroB lnv map_nil okI pack own_idat wl_buildL at_load at_alloc at_store fill_cons ex_buildL it_key tyI two flat_takeW)
/-- A writing's bytes. -/
def wrB (x : Wr) : List UInt8 := x.u ++ be 1 x.k.size ++ x.k.data.toList ++ be 1 x.v.size ++ x.v.data.toList
def putW (X : List Wr) (G : List Wd) : List UInt8 := be 4 X.length ++ X.flatMap wrB ++ be 4 G.length ++ G.flatten
def Small (L : List Wr) : Prop := ∀ x ∈ L, x.k.size ≤ 16 ∧ x.v.size ≤ 16
theorem putW_take {X : List Wr} {k : Nat} {d : Wr} (hd : X[k]? = some d) : (X.take (k + 1)).flatMap wrB = (X.take k).flatMap wrB ++ wrB d := by
  rw [List.take_add_one, hd, List.flatMap_append]
  simp
theorem wrB_len : ∀ (X : List Wr), Small X → (X.flatMap wrB).length ≤ 66 * X.length
  | [], _ => Nat.zero_le _
  | d :: X, h => by
    have h1 := wrB_len X (fun e he => h e (List.mem_cons_of_mem _ he))
    have h2 := h d List.mem_cons_self
    have h3 : (wrB d).length = 34 + d.k.size + d.v.size := by
      unfold wrB
      simp only [List.length_append, be_len, d.hu]
      have : d.v.data.toList.length = d.v.size := rfl
      have : d.k.data.toList.length = d.k.size := rfl
      omega
    rw [List.flatMap_cons, List.length_append, List.length_cons, h3]
    omega
theorem MTo.ofI {F : Nat → Prop} {w0 w w' : World} {b bl bo : Nat} {L : List Wr} {O : List Wd} {it : List It} (h : M (mfoot b bl bo) w w' it) (i : Nat) (hi : it[i]? = some (muI b bl bo L O)) : MTo w w' b bl bo L O := ⟨h.get i hi, h.keep⟩
/-- What Put comes to. -/
structure PutPost (w : World) (b bl bo : Nat) (L : List Wr) (O l : List Wd) (e : Ending) (w' : World) : Prop where
  ex : ∃ X, e = .returned (.string ⟨(putW X l).toArray⟩) ∧ X.Pairwise ltW ∧ (∀ x, x ∈ X ↔ x ∈ L) ∧ X.length = L.length
  mu : MTo w w' b bl bo L O
set_option maxRecDepth 100000 in
set_option maxHeartbeats 16000000 in
theorem mput_any (w : World) (b bl bo : Nat) (L : List Wr) (O : List Wd) (h : MuAt w b bl bo L O) (hn : L.Nodup) (hL : L.length ≤ 1000) (hS : Small L) (hO : O.length ≤ 1000) (G' : List Wd) (hl : ∀ K : List Wd, (∀ u, u ∈ K ↔ u ∈ O) → IdL.setL K = G') :
    Calls Try.prog 35 #[.pointer (some ⟨b, 0, none⟩)] w (PutPost w b bl bo L O G') := by
  have HM : Hid (M (mfoot b bl bo) w w [muI b bl bo L O]) := startMu h
  have HSo : Hid (∀ w1, MuAt w1 b bl bo L O → Calls Try.prog 56 #[.pointer (some ⟨b, 0, none⟩)] w1 (SrtPost w1 b bl bo L O)) := fun w1 h1 => sorted_any w1 b bl bo L O h1 hn hL
  have HGo : Hid (∀ w1, MuAt w1 b bl bo L O → Calls Try.prog 67 #[.pointer (some ⟨b, 0, none⟩)] w1 (KeyPost w1 b bl bo L O G')) := fun w1 h1 => gone_any w1 b bl bo L O h1 hO G' hl
  have HLl : Hid (L.length ≤ 1000) := hL
  have HSm : Hid (Small L) := hS
  obtain ⟨g, hgl⟩ : ∃ g, G'.length = g := ⟨_, rfl⟩
  have Hgl : Hid (G'.length = g) := hgl
  have hg1 : g ≤ 1000 := by
    rw [← hgl, ← hl O (fun _ => Iff.rfl)]
    exact Nat.le_trans (nodup_len (IdL.srt_nodup (IdL.setL_srt O)) (fun y hy => (IdL.mem_setL O y).1 hy)) hO
  clear h hn hL hS hO hl hgl
  go_enter Try.func35, Try.ntmps35
  go_wp2_with (first | (go_at_call 58; refine (mnone _ b bl bo L O (HM.out.get 0 rfl)).mono ?_; rintro e w1 ⟨rfl, h1⟩; replace h1 := h1.symm; subst h1) | (go_at_call 56; refine (HSo.out _ (HM.out.get 0 rfl)).mono ?_; rintro e w2 ⟨v2, X, rfl, m2, r2, mm2, l2⟩; have HM : Hid (M (mfoot b bl bo) w w2 [muI b bl bo L O, rW v2 X]) := two HM.out 0 rfl m2; have HXr : Hid (X.Pairwise ltW) := r2; have HXm : Hid (∀ x, x ∈ X ↔ x ∈ L) := mm2; have HXl : Hid (X.length = L.length) := l2; clear m2 r2 mm2 l2; obtain ⟨la, lc, e2, _⟩ := (show OwnW w2 v2 X from HM.out.get 1 rfl).any; subst e2; obtain ⟨q, hq⟩ : ∃ q, X.length = q := ⟨_, rfl⟩; have Hq : Hid (X.length = q) := hq; rw [hq] at HM ⊢; clear hq) | (go_at_call 67; refine (HGo.out _ (HM.out.get 0 rfl)).mono ?_; rintro e w3 ⟨v3, rfl, m3⟩; have HM : Hid (M (mfoot b bl bo) w w3 [muI b bl bo L O, rW (.slice la q lc) X, ids v3 G']) := two HM.out 0 rfl m3; clear m3; obtain ⟨ga, gc, e3, hat3⟩ : ∃ a c, v3 = .slice a g c ∧ At w3 a g G' := (by obtain ⟨a, c, e, h1, _⟩ := (show Ids.Own w3 v3 G' from HM.out.get 2 rfl).at; rw [Hgl.out] at e h1; exact ⟨a, c, e, h1⟩); subst e3; clear hat3; obtain ⟨bw, hbw⟩ : ∃ b, w3.heap.size = b := ⟨_, rfl⟩; have Hbw : Hid (w3.heap.size = bw) := hbw; clear hbw; have hq1 : q ≤ 1000 := (by have := HLl.out; have := Hq.out; have := HXl.out; omega)) | (go_at_call 68; refine (M.new HM.out Hbw.out).mono ?_; rintro e w4 ⟨rfl, h4⟩; have HM : Hid _ := h4; clear h4) | (go_at_call 69; refine (M.wnum HM.out 3 rfl q 4 (by omega) (by omega) (by omega) (by simp)).mono ?_; rintro e w5 ⟨rfl, sv5, h5⟩; have HM : Hid _ := h5; clear h5))
  have HXs : Hid (Small X) := fun x hx => HSm.out x ((HXm.out x).1 hx)
  go_loopw [24] (fun s24 wr => ∃ (k : Nat) (sv : Value), k ≤ q ∧ s24 = .int .i64 k ∧ M (mfoot b bl bo) w wr [muI b bl bo L O, rW (.slice la q lc) X, ids (.slice ga g gc) G', Mem.wr bw (be 4 q ++ (X.take k).flatMap wrB) sv]) (fun s24 _ => q - (intOf s24).toNat)
  case atStart => exact ⟨0, sv5, Nat.zero_le _, by go_num, by have := HM.out; simpa using this⟩
  case round =>
    clear HM
    obtain ⟨k, sv, hk, rfl, hM⟩ := hrel
    have HM : Hid (M (mfoot b bl bo) w wr [muI b bl bo L O, rW (.slice la q lc) X, ids (.slice ga g gc) G', Mem.wr bw (be 4 q ++ (X.take k).flatMap wrB) sv]) := hM
    clear hM
    by_cases hlt : k < q
    · obtain ⟨x, hd⟩ : ∃ d, X[k]? = some d := ⟨_, List.getElem?_eq_getElem (by rw [Hq.out]; exact hlt)⟩
      obtain ⟨g0, o0, e0, _, hr0⟩ := (St.Own.slice (show OwnW wr (.slice la q lc) X from HM.out.get 1 rfl)).2.lay.resolve_left (by have := Hq.out; omega)
      subst e0
      have R1 : Hid (wr.rangeAt g0 (o0 + k * 34) (we x)) := hr0 k x hd
      have HE : Hid ((X.take (k + 1)).flatMap wrB = (X.take k).flatMap wrB ++ wrB x) := putW_take hd
      obtain ⟨hk16, hv16⟩ := HXs.out x (List.mem_of_getElem? hd)
      have HB : Hid ((be 4 q ++ (X.take k).flatMap wrB).length ≤ 100000) := by
        show _ ≤ _
        have h1 := wrB_len (X.take k) (fun e he => HXs.out e (List.mem_of_mem_take he))
        have h2 := List.length_take_le k X
        rw [List.length_append, be_len]
        omega
      have HKl : Hid (x.k.data.toList.length = x.k.size) := rfl
      have HVl : Hid (x.v.data.toList.length = x.v.size) := rfl
      clear hr0 hd
      obtain ⟨bs, hbs⟩ : ∃ bs, be 4 q ++ (X.take k).flatMap wrB = bs := ⟨_, rfl⟩
      have HBs : Hid (be 4 q ++ (X.take k).flatMap wrB = bs) := hbs
      rw [hbs] at HM HB
      clear hbs
      go_wp2_with (first | ((with_reducible refine at_load 105 ?_); refine St.wl_load tyW rfl rfl rfl R1.out (we_len x) ?_; simp only [Act.put, List.setIfInBounds_toArray, List.set_cons_zero, List.set_cons_succ]) | ((with_reducible refine at_alloc 105 ?_); refine St.wl_alloc tyW rfl rfl (by (try simp only [World.size_alloc]); rfl) ?_; simp only [Act.put, List.setIfInBounds_toArray, List.set_cons_zero, List.set_cons_succ]) | ((with_reducible refine at_store 105 ?_); refine St.wl_storeN (W := wr) tyW rfl rfl rfl rfl rfl (by (try simp only [World.size_alloc])) (show _ = Value.agg (we x).toArray from rfl) (we_sz x) rfl (encW.all x) ?_; have HM : Hid _ := HM.out.alloc (.cells (we x).toArray 105) rfl))
      obtain ⟨ub, hub⟩ : ∃ n, wr.heap.size = n := ⟨_, rfl⟩
      rw [hub] at HM ⊢
      clear hub
      refine Txt.wp_region_text (fun w' => w'.rangeAt ub 0 (we x)) [0, 0, 0, 1, 4, 0, 2, 0, 4, 0, 2, 4, 0, 2, 0, 4, 0, 2, 4] (by kernel_rfl) (by kernel_rfl) (HM.out.drew.range 4 rfl) ?_
      have HM : Hid _ := HM.out.drew
      (repeat (first | (refine Txt.tl_pure (v := ?_) (by rfl) ?_ ?_; rotate_left; (focus (intro _; go_simp; try with_reducible rfl)); simp only [Act.put, List.setIfInBounds_toArray, List.set_cons_zero, List.set_cons_succ]) | (refine Txt.tl_convR (by rfl) (by rfl) (by rfl) (v := .string ⟨x.u.toArray⟩) (fun w2 h => conv_id w2 ub 0 x.u x.hu _ (rng_wu (h.range (HM.out.range 4 rfl)))) ?_; simp only [Act.put, List.setIfInBounds_toArray, List.set_cons_zero, List.set_cons_succ]) | (refine Txt.tl_convQ (by rfl) (by rfl) (by rfl) (v := .string ⟨x.u.toArray⟩) (fun w2 h => conv_id w2 ub 0 x.u x.hu _ (rng_wu h)) ?_; simp only [Act.put, List.setIfInBounds_toArray, List.set_cons_zero, List.set_cons_succ]) | (refine Txt.tl_loadS (v := .string x.k) (ty := 9) (by rfl) (by rfl) (by rfl) (by kernel_rfl) (fun _ h => rng_wk h) ?_; simp only [Act.put, List.setIfInBounds_toArray, List.set_cons_zero, List.set_cons_succ]) | (refine Txt.tl_loadS (v := .string x.v) (ty := 9) (by rfl) (by rfl) (by rfl) (by kernel_rfl) (fun _ h => rng_wv h) ?_; simp only [Act.put, List.setIfInBounds_toArray, List.set_cons_zero, List.set_cons_succ])))
      refine Txt.tl_call Try.func70 (by kernel_rfl) (by kernel_rfl) (by rfl) (by rfl) (by rfl) (M.wraw HM.out 3 rfl ⟨x.u.toArray⟩ (by (have q1 := HB.out; (try simp only [List.length_append, be_len, Byt.arr_size, List.toList_toArray, x.hu, HKl.out, HVl.out]); omega))) ?_
      rintro e w6 ⟨rfl, sv6, h1⟩
      have HM : Hid _ := h1
      clear h1
      refine ⟨_, rfl, HM.out.range 4 rfl, ?_⟩
      simp only [Act.put, List.setIfInBounds_toArray, List.set_cons_zero, List.set_cons_succ]
      (repeat (first | (refine Txt.tl_pure (v := ?_) (by rfl) ?_ ?_; rotate_left; (focus (intro _; go_simp; try with_reducible rfl)); simp only [Act.put, List.setIfInBounds_toArray, List.set_cons_zero, List.set_cons_succ]) | (refine Txt.tl_convR (by rfl) (by rfl) (by rfl) (v := .string ⟨x.u.toArray⟩) (fun w2 h => conv_id w2 ub 0 x.u x.hu _ (rng_wu (h.range (HM.out.range 4 rfl)))) ?_; simp only [Act.put, List.setIfInBounds_toArray, List.set_cons_zero, List.set_cons_succ]) | (refine Txt.tl_convQ (by rfl) (by rfl) (by rfl) (v := .string ⟨x.u.toArray⟩) (fun w2 h => conv_id w2 ub 0 x.u x.hu _ (rng_wu h)) ?_; simp only [Act.put, List.setIfInBounds_toArray, List.set_cons_zero, List.set_cons_succ]) | (refine Txt.tl_loadS (v := .string x.k) (ty := 9) (by rfl) (by rfl) (by rfl) (by kernel_rfl) (fun _ h => rng_wk h) ?_; simp only [Act.put, List.setIfInBounds_toArray, List.set_cons_zero, List.set_cons_succ]) | (refine Txt.tl_loadS (v := .string x.v) (ty := 9) (by rfl) (by rfl) (by rfl) (by kernel_rfl) (fun _ h => rng_wv h) ?_; simp only [Act.put, List.setIfInBounds_toArray, List.set_cons_zero, List.set_cons_succ])))
      refine Txt.tl_call Try.func69 (by kernel_rfl) (by kernel_rfl) (by rfl) (by rfl) (by rfl) (M.wnum HM.out 3 rfl x.k.size 1 (by omega) (by omega) (by omega) (by (have q1 := HB.out; (try simp only [List.length_append, be_len, Byt.arr_size, List.toList_toArray, x.hu, HKl.out, HVl.out]); omega))) ?_
      rintro e w6 ⟨rfl, sv6, h1⟩
      have HM : Hid _ := h1
      clear h1
      refine ⟨_, rfl, HM.out.range 4 rfl, ?_⟩
      simp only [Act.put, List.setIfInBounds_toArray, List.set_cons_zero, List.set_cons_succ]
      (repeat (first | (refine Txt.tl_pure (v := ?_) (by rfl) ?_ ?_; rotate_left; (focus (intro _; go_simp; try with_reducible rfl)); simp only [Act.put, List.setIfInBounds_toArray, List.set_cons_zero, List.set_cons_succ]) | (refine Txt.tl_convR (by rfl) (by rfl) (by rfl) (v := .string ⟨x.u.toArray⟩) (fun w2 h => conv_id w2 ub 0 x.u x.hu _ (rng_wu (h.range (HM.out.range 4 rfl)))) ?_; simp only [Act.put, List.setIfInBounds_toArray, List.set_cons_zero, List.set_cons_succ]) | (refine Txt.tl_convQ (by rfl) (by rfl) (by rfl) (v := .string ⟨x.u.toArray⟩) (fun w2 h => conv_id w2 ub 0 x.u x.hu _ (rng_wu h)) ?_; simp only [Act.put, List.setIfInBounds_toArray, List.set_cons_zero, List.set_cons_succ]) | (refine Txt.tl_loadS (v := .string x.k) (ty := 9) (by rfl) (by rfl) (by rfl) (by kernel_rfl) (fun _ h => rng_wk h) ?_; simp only [Act.put, List.setIfInBounds_toArray, List.set_cons_zero, List.set_cons_succ]) | (refine Txt.tl_loadS (v := .string x.v) (ty := 9) (by rfl) (by rfl) (by rfl) (by kernel_rfl) (fun _ h => rng_wv h) ?_; simp only [Act.put, List.setIfInBounds_toArray, List.set_cons_zero, List.set_cons_succ])))
      refine Txt.tl_call Try.func70 (by kernel_rfl) (by kernel_rfl) (by rfl) (by rfl) (by rfl) (M.wraw HM.out 3 rfl x.k (by (have q1 := HB.out; (try simp only [List.length_append, be_len, Byt.arr_size, List.toList_toArray, x.hu, HKl.out, HVl.out]); omega))) ?_
      rintro e w6 ⟨rfl, sv6, h1⟩
      have HM : Hid _ := h1
      clear h1
      refine ⟨_, rfl, HM.out.range 4 rfl, ?_⟩
      simp only [Act.put, List.setIfInBounds_toArray, List.set_cons_zero, List.set_cons_succ]
      (repeat (first | (refine Txt.tl_pure (v := ?_) (by rfl) ?_ ?_; rotate_left; (focus (intro _; go_simp; try with_reducible rfl)); simp only [Act.put, List.setIfInBounds_toArray, List.set_cons_zero, List.set_cons_succ]) | (refine Txt.tl_convR (by rfl) (by rfl) (by rfl) (v := .string ⟨x.u.toArray⟩) (fun w2 h => conv_id w2 ub 0 x.u x.hu _ (rng_wu (h.range (HM.out.range 4 rfl)))) ?_; simp only [Act.put, List.setIfInBounds_toArray, List.set_cons_zero, List.set_cons_succ]) | (refine Txt.tl_convQ (by rfl) (by rfl) (by rfl) (v := .string ⟨x.u.toArray⟩) (fun w2 h => conv_id w2 ub 0 x.u x.hu _ (rng_wu h)) ?_; simp only [Act.put, List.setIfInBounds_toArray, List.set_cons_zero, List.set_cons_succ]) | (refine Txt.tl_loadS (v := .string x.k) (ty := 9) (by rfl) (by rfl) (by rfl) (by kernel_rfl) (fun _ h => rng_wk h) ?_; simp only [Act.put, List.setIfInBounds_toArray, List.set_cons_zero, List.set_cons_succ]) | (refine Txt.tl_loadS (v := .string x.v) (ty := 9) (by rfl) (by rfl) (by rfl) (by kernel_rfl) (fun _ h => rng_wv h) ?_; simp only [Act.put, List.setIfInBounds_toArray, List.set_cons_zero, List.set_cons_succ])))
      refine Txt.tl_call Try.func69 (by kernel_rfl) (by kernel_rfl) (by rfl) (by rfl) (by rfl) (M.wnum HM.out 3 rfl x.v.size 1 (by omega) (by omega) (by omega) (by (have q1 := HB.out; (try simp only [List.length_append, be_len, Byt.arr_size, List.toList_toArray, x.hu, HKl.out, HVl.out]); omega))) ?_
      rintro e w6 ⟨rfl, sv6, h1⟩
      have HM : Hid _ := h1
      clear h1
      refine ⟨_, rfl, HM.out.range 4 rfl, ?_⟩
      simp only [Act.put, List.setIfInBounds_toArray, List.set_cons_zero, List.set_cons_succ]
      (repeat (first | (refine Txt.tl_pure (v := ?_) (by rfl) ?_ ?_; rotate_left; (focus (intro _; go_simp; try with_reducible rfl)); simp only [Act.put, List.setIfInBounds_toArray, List.set_cons_zero, List.set_cons_succ]) | (refine Txt.tl_convR (by rfl) (by rfl) (by rfl) (v := .string ⟨x.u.toArray⟩) (fun w2 h => conv_id w2 ub 0 x.u x.hu _ (rng_wu (h.range (HM.out.range 4 rfl)))) ?_; simp only [Act.put, List.setIfInBounds_toArray, List.set_cons_zero, List.set_cons_succ]) | (refine Txt.tl_convQ (by rfl) (by rfl) (by rfl) (v := .string ⟨x.u.toArray⟩) (fun w2 h => conv_id w2 ub 0 x.u x.hu _ (rng_wu h)) ?_; simp only [Act.put, List.setIfInBounds_toArray, List.set_cons_zero, List.set_cons_succ]) | (refine Txt.tl_loadS (v := .string x.k) (ty := 9) (by rfl) (by rfl) (by rfl) (by kernel_rfl) (fun _ h => rng_wk h) ?_; simp only [Act.put, List.setIfInBounds_toArray, List.set_cons_zero, List.set_cons_succ]) | (refine Txt.tl_loadS (v := .string x.v) (ty := 9) (by rfl) (by rfl) (by rfl) (by kernel_rfl) (fun _ h => rng_wv h) ?_; simp only [Act.put, List.setIfInBounds_toArray, List.set_cons_zero, List.set_cons_succ])))
      refine Txt.tl_call Try.func70 (by kernel_rfl) (by kernel_rfl) (by rfl) (by rfl) (by rfl) (M.wraw HM.out 3 rfl x.v (by (have q1 := HB.out; (try simp only [List.length_append, be_len, Byt.arr_size, List.toList_toArray, x.hu, HKl.out, HVl.out]); omega))) ?_
      rintro e w6 ⟨rfl, sv6, h1⟩
      have HM : Hid _ := h1
      clear h1
      refine ⟨_, rfl, HM.out.range 4 rfl, ?_⟩
      simp only [Act.put, List.setIfInBounds_toArray, List.set_cons_zero, List.set_cons_succ]
      (repeat (first | (refine Txt.tl_pure (v := ?_) (by rfl) ?_ ?_; rotate_left; (focus (intro _; go_simp; try with_reducible rfl)); simp only [Act.put, List.setIfInBounds_toArray, List.set_cons_zero, List.set_cons_succ]) | (refine Txt.tl_convR (by rfl) (by rfl) (by rfl) (v := .string ⟨x.u.toArray⟩) (fun w2 h => conv_id w2 ub 0 x.u x.hu _ (rng_wu (h.range (HM.out.range 4 rfl)))) ?_; simp only [Act.put, List.setIfInBounds_toArray, List.set_cons_zero, List.set_cons_succ]) | (refine Txt.tl_convQ (by rfl) (by rfl) (by rfl) (v := .string ⟨x.u.toArray⟩) (fun w2 h => conv_id w2 ub 0 x.u x.hu _ (rng_wu h)) ?_; simp only [Act.put, List.setIfInBounds_toArray, List.set_cons_zero, List.set_cons_succ]) | (refine Txt.tl_loadS (v := .string x.k) (ty := 9) (by rfl) (by rfl) (by rfl) (by kernel_rfl) (fun _ h => rng_wk h) ?_; simp only [Act.put, List.setIfInBounds_toArray, List.set_cons_zero, List.set_cons_succ]) | (refine Txt.tl_loadS (v := .string x.v) (ty := 9) (by rfl) (by rfl) (by rfl) (by kernel_rfl) (fun _ h => rng_wv h) ?_; simp only [Act.put, List.setIfInBounds_toArray, List.set_cons_zero, List.set_cons_succ])))
      refine Txt.tl_nil ?_
      go_wp2
      go_roundw
      case rel =>
        refine ⟨k + 1, sv6, by omega, by go_num, ?_⟩
        rw [HE.out, ← List.append_assoc, HBs.out]
        have := HM.out.take 4
        simpa [wrB, List.append_assoc] using this
      case measure => simp [intOf]; omega
    · obtain rfl : q = k := by omega
      have HM : Hid (M (mfoot b bl bo) w wr [muI b bl bo L O, rW (.slice la q lc) X, ids (.slice ga g gc) G', Mem.wr bw (be 4 q ++ X.flatMap wrB) sv]) := by have := HM.out; rwa [List.take_of_length_le (by rw [Hq.out]; exact Nat.le_refl _)] at this
      have HB : Hid ((be 4 q ++ X.flatMap wrB).length ≤ 100000) := by
        show _ ≤ _
        have h1 := wrB_len X HXs.out
        have h2 := Hq.out
        rw [List.length_append, be_len]
        omega
      obtain ⟨cs, hcs⟩ : ∃ cs, be 4 q ++ X.flatMap wrB = cs := ⟨_, rfl⟩
      have HCs : Hid (be 4 q ++ X.flatMap wrB = cs) := hcs
      rw [hcs] at HM HB
      clear hcs
      go_wp2_with (first | (go_at_call 69; refine (M.wnum HM.out 3 rfl g 4 (by omega) (by omega) (by omega) (by have := HB.out; omega)).mono ?_; rintro e w6 ⟨rfl, sv6, h6⟩; have HM : Hid _ := h6; clear h6))
      go_loopw [54] (fun s54 wr => ∃ (k : Nat) (sv : Value), k ≤ g ∧ s54 = .int .i64 k ∧ M (mfoot b bl bo) w wr [muI b bl bo L O, rW (.slice la q lc) X, ids (.slice ga g gc) G', Mem.wr bw (cs ++ be 4 g ++ (G'.take k).flatten) sv]) (fun s54 _ => g - (intOf s54).toNat)
      case atStart => exact ⟨0, sv6, Nat.zero_le _, by go_num, by have := HM.out; simpa using this⟩
      case round =>
        clear HM
        obtain ⟨k, sv, hk, rfl, hM⟩ := hrel
        have HM : Hid (M (mfoot b bl bo) w wr [muI b bl bo L O, rW (.slice la q lc) X, ids (.slice ga g gc) G', Mem.wr bw (cs ++ be 4 g ++ (G'.take k).flatten) sv]) := hM
        clear hM
        by_cases hlt : k < g
        · obtain ⟨u, hu⟩ : ∃ u, G'[k]? = some u := ⟨_, List.getElem?_eq_getElem (by rw [Hgl.out]; exact hlt)⟩
          have hat : At wr ga g G' := own_idat (c := gc) (HM.out.get 2 rfl)
          obtain ⟨g0, o0, e0, _, hr0⟩ := hat.lay.resolve_left (by omega)
          subst e0
          have hul := hat.size u (List.mem_of_getElem? hu)
          have R1 : Hid (wr.rangeAt g0 (o0 + k * 32) (u.map bv)) := hr0 k u hu
          have HU : Hid (u.length = 32) := hul
          have HUs : Hid ((u.map bv).toArray.size = 32) := by show _ = _; rw [List.size_toArray, List.length_map]; exact hul
          have hcv := conv_id (wr.alloc (.cells (u.map bv).toArray 35)) wr.heap.size 0 u hul 32 (range_new wr _ _)
          have HE : Hid ((G'.take (k + 1)).flatten = (G'.take k).flatten ++ u) := flat_takeW hu
          have HLn : Hid ((cs ++ be 4 g ++ (G'.take k).flatten).length + (⟨u.toArray⟩ : ByteArray).size ≤ 1000000000) := by
            show _ ≤ _
            have h1 := HB.out
            have h2 := Ids.flat_take G' k hat.size (by rw [Hgl.out]; omega)
            rw [List.length_append, List.length_append, be_len, h2, Byt.arr_size, hul]
            omega
          clear hr0 hu hat hul
          go_wp2_with (first | ((with_reducible refine at_load 35 ?_); refine Ids.wl_load rfl rfl rfl HU.out R1.out ?_; simp only [Act.put, List.setIfInBounds_toArray, List.set_cons_zero, List.set_cons_succ]) | ((with_reducible refine at_alloc 35 ?_); refine St.wl_alloc tyI rfl rfl (by (try simp only [World.size_alloc]); rfl) ?_; simp only [Act.put, List.setIfInBounds_toArray, List.set_cons_zero, List.set_cons_succ]) | ((with_reducible refine at_store 35 ?_); refine St.wl_storeN (W := wr) tyI rfl rfl rfl rfl rfl (by (try simp only [World.size_alloc])) (show _ = Value.agg (u.map bv).toArray from rfl) HUs.out rfl (one_bv _) ?_; have HM : Hid _ := HM.out.alloc (.cells (u.map bv).toArray 35) rfl) | (go_at_call 70; refine (M.wraw HM.out 3 rfl ⟨u.toArray⟩ HLn.out).mono ?_; rintro e w7 ⟨rfl, sv7, h7⟩; have HM : Hid _ := h7; clear h7))
          go_roundw
          case rel =>
            refine ⟨k + 1, sv7, by omega, by go_num, ?_⟩
            rw [HE.out]
            have := HM.out.take 4
            simpa [List.append_assoc] using this
          case measure => simp [intOf]; omega
        · obtain rfl : g = k := by omega
          have HM : Hid (M (mfoot b bl bo) w wr [muI b bl bo L O, rW (.slice la q lc) X, ids (.slice ga g gc) G', Mem.wr bw (cs ++ be 4 g ++ G'.flatten) sv]) := by have := HM.out; rwa [List.take_of_length_le (by rw [Hgl.out]; exact Nat.le_refl _)] at this
          have HP : Hid (putW X G' = cs ++ be 4 g ++ G'.flatten) := by show _ = _; unfold putW; rw [Hq.out, Hgl.out, HCs.out]
          go_wp2_with (first | (go_at_call 71; refine (M.wdone HM.out 3 rfl).mono ?_; rintro e w7 ⟨rfl, h7⟩; have HM : Hid _ := h7; clear h7))
          go_ret
          refine ⟨⟨X, ?_, HXr.out, HXm.out, HXl.out⟩, MTo.ofI (F := fun _ => False) (w0 := w) HM.out 0 rfl⟩
          rw [HP.out, List.append_assoc]
          rfl
end Mu
end Go.Proofs.Ytgpimeobkacniaa


namespace Go.Proofs.Ytgpimeobkacniaa
open Go.RowKit
namespace Mu
open Oct Ids Mp Seg
open Mem (M It blk ids rows rd)
open OctRd (be_len)
open Sq (dG addG)
section
open Classical
/-- Writings, sorted, each once; pairs, sorted, each once. -/
noncomputable def srtW (L : List Wr) : List Wr := setU (r := ltW) L
noncomputable def srtP (L : List Pr) : List Pr := setU (r := ltP) L
theorem srtW_pw (L : List Wr) : (srtW L).Pairwise ltW := fold_srt (r := ltW) (fun _ _ _ => ltW_trans) ltW_tri L [] List.Pairwise.nil
theorem srtP_pw (L : List Pr) : (srtP L).Pairwise ltP := fold_srt (r := ltP) (fun _ _ _ => ltP_trans) ltP_tri L [] List.Pairwise.nil
theorem mem_srtW (L : List Wr) (x : Wr) : x ∈ srtW L ↔ x ∈ L := mem_setU (r := ltW) L x
theorem mem_srtP (L : List Pr) (x : Pr) : x ∈ srtP L ↔ x ∈ L := mem_setU (r := ltP) L x
end
theorem ltW_asym (a b : Wr) (h : ltW a b) : ¬ ltW b a := fun h' => ltW_irr a (ltW_trans h h')
theorem srtW_is {X L : List Wr} (h : X.Pairwise ltW) (hm : ∀ x, x ∈ X ↔ x ∈ L) : X = srtW L := Sq.pw_unique ltW_asym _ _ h (srtW_pw L) (fun x => by rw [hm, mem_srtW])
theorem srtP_is {X L : List Pr} (h : X.Pairwise ltP) (hm : ∀ x, x ∈ X ↔ x ∈ L) : X = srtP L := Sq.pw_unique ltP_asym _ _ h (srtP_pw L) (fun x => by rw [hm, mem_srtP])
theorem srtW_congr {L L2 : List Wr} (h : ∀ x, x ∈ L ↔ x ∈ L2) : srtW L = srtW L2 := srtW_is (srtW_pw L) (fun x => by rw [mem_srtW, h])
theorem srtP_congr {L L2 : List Pr} (h : ∀ x, x ∈ L ↔ x ∈ L2) : srtP L = srtP L2 := srtP_is (srtP_pw L) (fun x => by rw [mem_srtP, h])
theorem mem_kv {L : List Wr} {p : Pr} : p ∈ L.map kv ↔ ∃ x ∈ L, kv x = p := List.mem_map
theorem pw_nodup {α : Type} {r : α → α → Prop} (hi : ∀ x, ¬ r x x) {l : List α} (h : l.Pairwise r) : l.Nodup := List.Pairwise.imp (fun {a b} (h : r a b) => show a ≠ b from fun e => by subst e; exact hi _ h) h
theorem srtW_len {L : List Wr} : (srtW L).length ≤ L.length := nodup_len (pw_nodup ltW_irr (srtW_pw L)) (fun y hy => (mem_srtW L y).1 hy)
/-- What a map holds behind these calls. -/
structure Ob (C : List Ac) (L : List Wr) (O : List Wd) : Prop where
  nd : L.Nodup
  mem : ∀ y, y ∈ L ↔ (∃ a ∈ C, cdW a.x = 0 ∧ y = a.x) ∧ y.u ∉ O
  om : ∀ u, u ∈ O ↔ ∃ a ∈ C, cdW a.x = 0 ∧ u ∈ a.ov
  ol : O.length ≤ 12 * C.length
  ev : ∀ u ∈ O, u.length = 32
theorem Ob.nil : Ob [] [] [] := ⟨List.nodup_nil, fun y => by simp, fun u => by simp, Nat.le_refl _, fun u hu => by cases hu⟩
theorem Ob.step {C : List Ac} {L : List Wr} {O : List Wd} (h : Ob C L O) (a : Ac) (h12 : a.ov.length ≤ 12) (h32 : ∀ u ∈ a.ov, u.length = 32) {L' : List Wr} (hn : L'.Nodup) (hm : ∀ y, y ∈ L' ↔ if cdW a.x = 0 then (y ∈ L ∨ y = a.x) ∧ y.u ∉ addGs O a.ov else y ∈ L) : Ob (C ++ [a]) L' (goO O a) := by
  by_cases hc : cdW a.x = 0
  · have e : goO O a = addGs O a.ov := if_pos hc
    rw [e]
    have hom : ∀ u, u ∈ addGs O a.ov ↔ ∃ b ∈ C ++ [a], cdW b.x = 0 ∧ u ∈ b.ov := fun u => by
      rw [mem_addGs, h.om]
      constructor
      · rintro (⟨b, hb, h1⟩ | h1)
        · exact ⟨b, List.mem_append_left _ hb, h1⟩
        · exact ⟨a, by simp, hc, h1⟩
      · rintro ⟨b, hb, h1⟩
        rcases List.mem_append.1 hb with hb | hb
        · exact .inl ⟨b, hb, h1⟩
        · obtain rfl := List.mem_singleton.1 hb
          exact .inr h1.2
    refine ⟨hn, fun y => ?_, hom, ?_, fun u hu => ?_⟩
    · rw [hm, if_pos hc, h.mem]
      constructor
      · rintro ⟨⟨⟨b, hb, h1⟩, _⟩ | rfl, h3⟩
        · exact ⟨⟨b, List.mem_append_left _ hb, h1⟩, h3⟩
        · exact ⟨⟨a, by simp, hc, rfl⟩, h3⟩
      · rintro ⟨⟨b, hb, h1⟩, h3⟩
        refine ⟨?_, h3⟩
        rcases List.mem_append.1 hb with hb | hb
        · exact .inl ⟨⟨b, hb, h1⟩, fun h4 => h3 ((mem_addGs _ _ _).2 (.inl h4))⟩
        · obtain rfl := List.mem_singleton.1 hb
          exact .inr h1.2
    · have := addGs_len a.ov O
      have := h.ol
      rw [List.length_append]
      simp
      omega
    · rcases (mem_addGs _ _ _).1 hu with h1 | h1
      · exact h.ev u h1
      · exact h32 u h1
  · have e : goO O a = O := if_neg hc
    rw [e]
    refine ⟨hn, fun y => ?_, fun u => ?_, ?_, h.ev⟩
    · rw [hm, if_neg hc, h.mem]
      refine and_congr_left fun _ => ⟨fun ⟨b, hb, h1⟩ => ⟨b, List.mem_append_left _ hb, h1⟩, fun ⟨b, hb, h1⟩ => ?_⟩
      rcases List.mem_append.1 hb with hb | hb
      · exact ⟨b, hb, h1⟩
      · obtain rfl := List.mem_singleton.1 hb
        exact absurd h1.1 hc
    · rw [h.om]
      refine ⟨fun ⟨b, hb, h1⟩ => ⟨b, List.mem_append_left _ hb, h1⟩, fun ⟨b, hb, h1⟩ => ?_⟩
      rcases List.mem_append.1 hb with hb | hb
      · exact ⟨b, hb, h1⟩
      · obtain rfl := List.mem_singleton.1 hb
        exact absurd h1.1 hc
    · have := h.ol
      rw [List.length_append]
      simp
      omega
section
variable {C C2 : List Ac} {L L2 : List Wr} {O O2 : List Wd}
theorem Ob.len (h : Ob C L O) : L.length ≤ C.length := by
  have := nodup_len (U := C.map (·.x)) h.nd (fun y hy => by
    obtain ⟨⟨a, ha, _, e⟩, _⟩ := (h.mem y).1 hy
    exact List.mem_map.2 ⟨a, ha, e.symm⟩)
  rwa [List.length_map] at this
theorem Ob.small (h : Ob C L O) : Small L := fun x hx => by
  obtain ⟨⟨a, _, hc, rfl⟩, _⟩ := (h.mem x).1 hx
  unfold cdW at hc
  split at hc
  · cases hc
  · omega
theorem Ob.uniq (h : Ob C L O) (h2 : Ob C2 L2 O2) (hc : ∀ a, a ∈ C ↔ a ∈ C2) : (∀ y, y ∈ L ↔ y ∈ L2) ∧ ∀ u, u ∈ O ↔ u ∈ O2 := by
  have ho : ∀ u, u ∈ O ↔ u ∈ O2 := fun u => by
    rw [h.om, h2.om]
    exact ⟨fun ⟨a, ha, h1⟩ => ⟨a, (hc a).1 ha, h1⟩, fun ⟨a, ha, h1⟩ => ⟨a, (hc a).2 ha, h1⟩⟩
  refine ⟨fun y => ?_, ho⟩
  rw [h.mem, h2.mem, ho]
  exact and_congr_left fun _ => ⟨fun ⟨a, ha, h1⟩ => ⟨a, (hc a).1 ha, h1⟩, fun ⟨a, ha, h1⟩ => ⟨a, (hc a).2 ha, h1⟩⟩
theorem Ob.again (h : Ob C L O) (hn : L2.Nodup) (hm : ∀ y, y ∈ L2 ↔ y ∈ L) (ho : ∀ u, u ∈ O2 ↔ u ∈ O) (hl : O2.length ≤ O.length) : Ob C L2 O2 :=
  ⟨hn, fun y => by rw [hm, h.mem, ho], fun u => by rw [ho, h.om], Nat.le_trans hl h.ol, fun u hu => h.ev u ((ho u).1 hu)⟩
/-- What Put says. -/
noncomputable def putT (L : List Wr) (O : List Wd) : ByteArray := ⟨(putW (srtW L) (IdL.setL O)).toArray⟩
theorem putT_congr (h1 : ∀ y, y ∈ L ↔ y ∈ L2) (h2 : ∀ u, u ∈ O ↔ u ∈ O2) : putT L O = putT L2 O2 := by
  unfold putT
  rw [srtW_congr h1, IdL.setL_congr h2]
theorem setL_len2 (O : List Wd) : (IdL.setL O).length ≤ O.length := IdL.setL_len O
theorem putT_size (h : Ob C L O) (hC : C.length ≤ 60) : (putT L O).size ≤ 30000 := by
  have h1 := h.len
  have h2 := h.ol
  have h3 : (srtW L).length ≤ L.length := srtW_len
  have h4 := wrB_len (srtW L) (fun x hx => h.small x ((mem_srtW L x).1 hx))
  have h5 := Sq.flat32 (IdL.setL O) (IdL.len_32 h.ev)
  have h6 := setL_len2 O
  show (putW (srtW L) (IdL.setL O)).toArray.size ≤ 30000
  rw [List.size_toArray]
  unfold putW
  rw [List.length_append, List.length_append, List.length_append, be_len, be_len, h5]
  omega
theorem put_t {w : World} {b bl bo : Nat} (h : Ob C L O) (hC : C.length ≤ 60) (hs : MuAt w b bl bo L O) :
    Calls Try.prog 35 #[.pointer (some ⟨b, 0, none⟩)] w fun e w' => e = .returned (.string (putT L O)) ∧ MTo w w' b bl bo L O :=
  (mput_any w b bl bo L O hs h.nd (by have := h.len; omega) h.small (by have := h.ol; omega) (IdL.setL O) (fun K hK => IdL.setL_congr hK)).mono fun e w' ⟨⟨X, he, h1, h2, _⟩, ht⟩ => by
    rw [srtW_is h1 h2] at he
    exact ⟨he, ht⟩
theorem list_t {w : World} {b bl bo : Nat} (h : Ob C L O) (hC : C.length ≤ 60) (hs : MuAt w b bl bo L O) :
    Calls Try.prog 32 #[.pointer (some ⟨b, 0, none⟩)] w fun e w' => ∃ v, e = .returned v ∧ M (mfoot b bl bo) w w' [muI b bl bo L O, rP v (srtP (L.map kv))] :=
  (mlist_any w b bl bo L O hs h.nd (by have := h.len; omega)).mono fun e w' ⟨v, l, he, hM, h1, h2, _⟩ => by
    rw [srtP_is (L := L.map kv) h1 (fun p => by rw [h2, mem_kv])] at hM
    exact ⟨v, he, hM⟩
theorem M.app1b {F : Nat → Prop} {w0 w w' : World} {l : List It} {x : It} (h : M F w0 w l) (m : M (fun _ => False) w w' [x]) : M F w0 w' (l ++ [x]) :=
  h.add (x := x) m.keep (m.get 0 rfl) (fun k hk => by
    have := m.rng 0 x rfl k hk
    exact ⟨this.1.resolve_right (fun h => h), this.2⟩)
end
end Mu
end Go.Proofs.Ytgpimeobkacniaa
