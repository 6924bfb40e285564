/-
  The document's pen: put.
-/
import Derived.Test.YtdpkklinpbmkfaaGreatDoorPx2
import Derived.Test.YtdpkklinpbmkfaaGreatDoorDrw
set_option linter.unusedVariables false
set_option linter.unusedSimpArgs false
namespace Go.Proofs.YtdpkklinpbmkfaaGreatDoor
open Go.RowKit
namespace Px
open Oct Ids Gn Hd Pn
open Mem (M It blk ids rows)
theorem M.id0 {F : Nat → Prop} {w0 w : World} {l : List It} (h : M F w0 w l) {b : Nat} (hb : w.heap.size = b) : M F w0 (w.alloc (.cells #[] 28)) (l ++ [ids (.slice (some ⟨b, 0, none⟩) 0 0) []]) := by
  subst hb
  refine h.add (x := ids (.slice (some ⟨w.heap.size, 0, none⟩) 0 0) []) ((Keep.refl _ _).alloc _) ?_ (fun k hk => by have e : w.heap.size = k := Option.some.inj hk; subst e; simp)
  exact Ids.Own.of (c := 0) rfl (fun x hx => by cases hx) (heap_alloc_new w _) (Nat.le_refl _) (by unfold maxLen; omega) rfl rfl
theorem own_sl {α : Type} {T : TypeId} {n : Nat} {enc : α → List Value} {w : World} {a : Option Addr} {q c : Nat} {L : List α} (h : St.Own T n enc w (.slice a q c) L) : St.At n enc w a q L := by
  obtain ⟨rfl, hat⟩ := h.slice
  exact hat
theorem own_rng {α : Type} {T : TypeId} {n : Nat} {enc : α → List Value} {w : World} {g q c i : Nat} {L : List α} {y : α} (h : St.Own T n enc w (.slice (some ⟨g, 0, none⟩) q c) L) (hy : L[i]? = some y) : w.rangeAt g (i * n) (enc y) := by
  have hlt := (List.getElem?_eq_some_iff.1 hy).1
  have hat := own_sl h
  rcases hat.lay with e | ⟨b, off, e, _, hr⟩
  · have := hat.len; omega
  · cases e
    have := hr i y hy
    rwa [Nat.zero_add] at this
theorem xToI2 {w w' : World} {b : Nat} {lv iv fv : Value} {L : List Wt} {lv' iv' fv' : Value} {L' : List Wt} {lost' : Int} {it : List It} (h : M (xfoot b lv iv fv L) w w' it) (i : Nat) (hi : it[i]? = some (xpI b lv' iv' fv' L' lost')) : XTo w w' b lv iv fv L lv' iv' fv' L' lost' :=
  ⟨h.get i hi, h.keep, fun k hk => by
    have := h.rng i _ hi k hk
    rcases this.1 with h1 | h1
    · exact .inr ⟨h1, this.2⟩
    · exact .inl h1⟩
theorem xlost {w : World} {b : Nat} {lv iv fv : Value} {L : List Wt} {lost : Int} (h : XAt w b lv iv fv L lost) (lost' : Int) : XTo w (w.setCell ⟨b, 3, none⟩ (.int .i64 lost')) b lv iv fv L lv iv fv L lost' := xTo (h.all.setc 0 rfl 3 (.int .i64 lost'))
theorem xfree3 {w : World} {b : Nat} {lv iv fv : Value} {L : List Wt} {lost : Int} (h : XAt w b lv iv fv L lost) : w.frozen? ⟨b, 3, none⟩ = false := h.all.free 0 rfl 3
theorem xoutTo (w : World) (b : Nat) (lv iv fv : Value) (L : List Wt) (lost : Int) (h : XAt w b lv iv fv L lost) (hl : L.length ≤ 1000) (i : Nat) (hi : i < L.length) :
    Calls Tryz.prog 60 #[.pointer (some ⟨b, 0, none⟩), .int .i64 i] w fun e w' => e = .returned (.tuple #[]) ∧ ∃ lv' iv' fv', XTo w w' b lv iv fv L lv' iv' fv' (L.take i ++ L.drop (i + 1)) lost := by
  refine (xout w b lv iv fv L lost h hl i hi).mono ?_
  rintro e w' ⟨he, lv', iv', fv', hm⟩
  refine ⟨he, lv', iv', fv', xTo ?_⟩
  exact hm.turn 4 rfl (pars (L.take i ++ L.drop (i + 1))) ((pars_sub mem_cut).2 _ (hm.get 4 rfl)) (pars_sub mem_cut).1
theorem xids {w : World} {ra : Option Addr} {q rc : Nat} {L : List Wt} (h : St.Own 28 32 eI w (.slice ra q rc) L) : At w ra q (L.map fun x : Wt => x.id) := by
  obtain ⟨rfl, hat⟩ := h.slice
  exact at_ids hat
theorem XAt.cell2 {w : World} {b : Nat} {lv iv fv : Value} {L : List Wt} {lost : Int} (h : XAt w b lv iv fv L lost) : w.cell? ⟨b, 1, none⟩ = some iv := h.cells.2.1
section
variable (w : World) (b : Nat) (lv iv fv : Value) (L : List Wt) (lost : Int) (hp : XAt w b lv iv fv L lost)
  (a : Option Addr) (n c : Nat) (l : List (List UInt8)) (G : Int) (T : ByteArray) (A Q Z : Int) (m : List UInt8) (fr : Int) (h : At w a n l) (hm : m.length = 32) (hT : T.size ≤ maxLen)
include hp h hm hT
set_option maxRecDepth 100000 in
set_option maxHeartbeats 2000000 in
theorem xput_bad (v : Int) (hv : ck n l G T A Q Z = v) (hv0 : v ≠ 0) :
    Calls Tryz.prog 19 #[.pointer (some ⟨b, 0, none⟩), .agg (hd (.slice a n c) G T A Q Z m).toArray, .int .i64 fr] w fun e w' => e = .returned (.tuple #[idv Z32, .bool false, .int .i64 v]) ∧ Keep (fun _ => False) w w' := by
  have hv1 : (v != 0) = true := by simpa using hv0
  have A1 : Hid (At w a n l) := h
  have Hm : Hid (m.length = 32) := hm
  have HM : Hid (M (xfoot b lv iv fv L) w _ [blk w.heap.size (.cells (hd (.slice a n c) G T A Q Z m).toArray 30), blk (w.heap.size + 1) (.cells z32 28), xpI b lv iv fv L lost]) := (pack_x (l := [blk w.heap.size (.cells (hd (.slice a n c) G T A Q Z m).toArray 30), blk (w.heap.size + 1) (.cells z32 28)]) (((hp.all.alloc (.cells (hd (.slice a n c) G T A Q Z m).toArray 30) rfl).alloc (.cells z32 28) (b := w.heap.size + 1) (by simp)).sub _ [5, 6, 0, 1, 2, 3, 4] (by decide) rfl))
  generalize hX : (hd (.slice a n c) G T A Q Z m).toArray = X at HM ⊢
  have HX : Hid ((hd (.slice a n c) G T A Q Z m).toArray = X) := hX
  have KW : Hid (Keep (fun _ => False) w ((w.alloc (.cells X 30)).alloc (.cells z32 28))) := ((Keep.refl _ _).alloc _).alloc _
  have HI : Hid (∀ w, At w a n l → Calls Tryz.prog 16 #[.agg X] w fun e w' => e = .returned (.tuple #[idv (Hd.iv n l G T A Q Z m), .int .i64 v]) ∧ Keep (fun _ => False) w w') := fun w h => by
    have := rident_any w a n c l G T A Q Z m h hm hT
    rwa [hv, hX] at this
  have hul := iv_len n l G T A Q Z m
  generalize Hd.iv n l G T A Q Z m = u at HI hul
  have Hum : Hid ((u.map bv).toArray.size = 32) := by show _ = _; rw [List.size_toArray, List.length_map]; exact hul
  clear h hm hT hv hv0 hp hul hX
  go_enter Tryz.func19, Tryz.ntmps19
  go_wp2_with (first | ((with_reducible refine at_load 30 ?_); refine St.wl_load tyH (by rfl) rfl rfl (h_at HM.out 0 rfl HX.out Hm.out).all (hd_len _ _ _ _ _ _ _ Hm.out) ?_; rw [show Value.agg (hd (.slice a n c) G T A Q Z m).toArray = .agg X from congrArg _ HX.out]; simp only [Act.put, List.setIfInBounds_toArray, List.set_cons_zero, List.set_cons_succ]) | (refine St.wl_alloc tyI rfl rfl (by (try simp only [World.size_alloc]); rfl) ?_; simp only [Act.put, List.setIfInBounds_toArray, List.set_cons_zero, List.set_cons_succ]) | (go_at_call 16; refine (HI.out _ (A1.out.calm KW.out)).mono ?_; rintro e w2 ⟨rfl, k2⟩; have HM : Hid _ := HM.out.calm k2; have KW : Hid _ := KW.out.trans k2; clear k2) | (refine St.wl_storeN (W := w2) tyI rfl rfl rfl rfl rfl (by (try simp only [World.size_alloc])) (show _ = Value.agg (u.map bv).toArray from rfl) Hum.out rfl (one_bv _) ?_; have HM : Hid _ := HM.out.alloc (.cells (u.map bv).toArray 28) rfl; have KW : Hid _ := KW.out.alloc (.cells (u.map bv).toArray 28)) | (refine St.wl_buildV (T := 28) (parts := #[]) rfl rfl (cs := z32) (by kernel_rfl) ?_; simp only [Act.put, List.setIfInBounds_toArray, List.set_cons_zero, List.set_cons_succ]) | (refine St.wl_store tyI rfl rfl rfl rfl rfl (cs := z32) rfl (one_bv (List.replicate 32 0)) (HM.out.get 1 rfl) rfl ?_; have HM : Hid _ := HM.out.setr 1 rfl z32))
  refine bodyPost_ret (St.res3 tyI rfl _ _ _ z32 rfl rfl (HM.out.get 1 rfl) _ _ rfl rfl) rfl ?_
  exact ⟨rfl, keep_new KW.out (Nat.le_succ _) _⟩
set_option maxRecDepth 100000 in
set_option maxHeartbeats 2000000 in
theorem xput_has (hv : ck n l G T A Q Z = 0) (hl : L.length ≤ 1000000) (hh : Hd.iv n l G T A Q Z m ∈ L.map fun x : Wt => x.id) :
    Calls Tryz.prog 19 #[.pointer (some ⟨b, 0, none⟩), .agg (hd (.slice a n c) G T A Q Z m).toArray, .int .i64 fr] w fun e w' => e = .returned (.tuple #[idv Z32, .bool false, .int .i64 0]) ∧ Keep (fun _ => False) w w' := by
  have A1 : Hid (At w a n l) := h
  have Hm : Hid (m.length = 32) := hm
  have HM : Hid (M (xfoot b lv iv fv L) w _ [blk w.heap.size (.cells (hd (.slice a n c) G T A Q Z m).toArray 30), blk (w.heap.size + 1) (.cells z32 28), xpI b lv iv fv L lost]) := (pack_x (l := [blk w.heap.size (.cells (hd (.slice a n c) G T A Q Z m).toArray 30), blk (w.heap.size + 1) (.cells z32 28)]) (((hp.all.alloc (.cells (hd (.slice a n c) G T A Q Z m).toArray 30) rfl).alloc (.cells z32 28) (b := w.heap.size + 1) (by simp)).sub _ [5, 6, 0, 1, 2, 3, 4] (by decide) rfl))
  generalize hX : (hd (.slice a n c) G T A Q Z m).toArray = X at HM ⊢
  have HX : Hid ((hd (.slice a n c) G T A Q Z m).toArray = X) := hX
  have KW : Hid (Keep (fun _ => False) w ((w.alloc (.cells X 30)).alloc (.cells z32 28))) := ((Keep.refl _ _).alloc _).alloc _
  have HI : Hid (∀ w, At w a n l → Calls Tryz.prog 16 #[.agg X] w fun e w' => e = .returned (.tuple #[idv (Hd.iv n l G T A Q Z m), .int .i64 0]) ∧ Keep (fun _ => False) w w') := fun w h => by
    have := rident_any w a n c l G T A Q Z m h hm hT
    rwa [hv, hX] at this
  have hul := iv_len n l G T A Q Z m
  generalize Hd.iv n l G T A Q Z m = u at HI hul hh
  have Hum : Hid ((u.map bv).toArray.size = 32) := by show _ = _; rw [List.size_toArray, List.length_map]; exact hul
  have Hul : Hid (u.length = 32) := hul
  obtain ⟨ra, rc, er, _⟩ := hp.rowI
  subst er
  have HH : Hid (∀ w, XAt w b lv (.slice ra L.length rc) fv L lost → Calls Tryz.prog 17 #[.slice ra L.length rc, idv u] w fun e w' => e = .returned (.bool true) ∧ Keep (fun _ => False) w w') := fun w hx => by
    obtain ⟨a1, c1, e1, t1⟩ := hx.rowI
    cases e1
    have := xhas_any w ra L.length rc _ (at_ids t1) hl u Hul.out
    rwa [decide_eq_true hh] at this
  have c1 := (show XAt _ b lv (.slice ra L.length rc) fv L lost from HM.out.get 2 rfl).cells.2.1
  clear h hm hT hv hp hul hX hh hl
  go_enter Tryz.func19, Tryz.ntmps19
  go_wp2_with (first | ((with_reducible refine at_load 30 ?_); refine St.wl_load tyH (by rfl) rfl rfl (h_at HM.out 0 rfl HX.out Hm.out).all (hd_len _ _ _ _ _ _ _ Hm.out) ?_; rw [show Value.agg (hd (.slice a n c) G T A Q Z m).toArray = .agg X from congrArg _ HX.out]; simp only [Act.put, List.setIfInBounds_toArray, List.set_cons_zero, List.set_cons_succ]) | (refine St.wl_alloc tyI rfl rfl (by (try simp only [World.size_alloc]); rfl) ?_; simp only [Act.put, List.setIfInBounds_toArray, List.set_cons_zero, List.set_cons_succ]) | (go_at_call 16; refine (HI.out _ (A1.out.calm KW.out)).mono ?_; rintro e w2 ⟨rfl, k2⟩; have HM : Hid _ := HM.out.calm k2; have KW : Hid _ := KW.out.trans k2; clear k2) | (refine St.wl_storeN (W := w2) tyI rfl rfl rfl rfl rfl (by (try simp only [World.size_alloc])) (show _ = Value.agg (u.map bv).toArray from rfl) Hum.out rfl (one_bv _) ?_; have HM : Hid _ := HM.out.alloc (.cells (u.map bv).toArray 28) rfl; have KW : Hid _ := KW.out.alloc (.cells (u.map bv).toArray 28)) | (refine St.wl_buildV (T := 28) (parts := #[]) rfl rfl (cs := z32) (by kernel_rfl) ?_; simp only [Act.put, List.setIfInBounds_toArray, List.set_cons_zero, List.set_cons_succ]) | (refine St.wl_store tyI rfl rfl rfl rfl rfl (cs := z32) rfl (one_bv (List.replicate 32 0)) (HM.out.get 1 rfl) rfl ?_; have HM : Hid _ := HM.out.setr 1 rfl z32))
  have HM : Hid _ := HM.out.drew
  have KW : Hid _ := KW.out.drew
  have cx := XAt.cell2 (b := b) (lv := lv) (iv := .slice ra L.length rc) (fv := fv) (L := L) (lost := lost) (HM.out.get 2 rfl)
  refine Txt.wp_region_text (fun _ => True) [0, 0, 0, 1, 1, 4] (by kernel_rfl) (by kernel_rfl) trivial ?_
  (repeat (first | (refine Txt.tl_pure (v := ?_) (by rfl) ?_ ?_; rotate_left; (focus (intro _; go_simp; try with_reducible rfl)); simp only [Act.put, List.setIfInBounds_toArray, List.set_cons_zero, List.set_cons_succ]) | (refine Txt.tl_load (v := ?_) (by rfl) (by rfl) (by rfl) (by kernel_rfl) ?_ ?_; rotate_left; (focus assumption); simp only [Act.put, List.setIfInBounds_toArray, List.set_cons_zero, List.set_cons_succ]) | (refine Txt.tl_loadS (v := ?_) (by rfl) (by rfl) (by rfl) (by kernel_rfl) ?_ ?_; rotate_left; (focus (exact fun _ h => h)); simp only [Act.put, List.setIfInBounds_toArray, List.set_cons_zero, List.set_cons_succ])))
  refine Txt.tl_rowN (n := 32) (ty := 28) (by rfl) (by rfl) (by rfl) (HM.out.range 3 rfl) (by kernel_rfl) (by rw [List.length_map]; exact Hul.out) ?_
  simp only [Act.put, List.setIfInBounds_toArray, List.set_cons_zero, List.set_cons_succ]
  refine Txt.tl_call Tryz.func17 (by kernel_rfl) (by kernel_rfl) (by rfl) (by rfl) (by rfl) (vs := #[.slice ra L.length rc, idv u]) (HH.out _ (HM.out.get 2 rfl)) ?_
  rintro e w3 ⟨rfl, k3⟩
  have HM : Hid _ := HM.out.calm k3
  have KW : Hid _ := KW.out.trans k3
  clear k3
  clear cx
  refine ⟨_, rfl, trivial, ?_⟩
  simp only [Act.put, List.setIfInBounds_toArray, List.set_cons_zero, List.set_cons_succ]
  (repeat (first | (refine Txt.tl_pure (v := ?_) (by rfl) ?_ ?_; rotate_left; (focus (intro _; go_simp; try with_reducible rfl)); simp only [Act.put, List.setIfInBounds_toArray, List.set_cons_zero, List.set_cons_succ]) | (refine Txt.tl_load (v := ?_) (by rfl) (by rfl) (by rfl) (by kernel_rfl) ?_ ?_; rotate_left; (focus assumption); simp only [Act.put, List.setIfInBounds_toArray, List.set_cons_zero, List.set_cons_succ]) | (refine Txt.tl_loadS (v := ?_) (by rfl) (by rfl) (by rfl) (by kernel_rfl) ?_ ?_; rotate_left; (focus (exact fun _ h => h)); simp only [Act.put, List.setIfInBounds_toArray, List.set_cons_zero, List.set_cons_succ])))
  refine Txt.tl_nil ?_
  go_wp2_with (first | (refine St.wl_buildV (T := 28) (parts := #[]) rfl rfl (cs := z32) (by kernel_rfl) ?_; simp only [Act.put, List.setIfInBounds_toArray, List.set_cons_zero, List.set_cons_succ]) | (refine St.wl_store tyI rfl rfl rfl rfl rfl (cs := z32) rfl (one_bv (List.replicate 32 0)) (HM.out.get 1 rfl) rfl ?_; have HM : Hid _ := HM.out.setr 1 rfl z32))
  refine bodyPost_ret (St.res3 tyI rfl _ _ _ z32 rfl rfl (HM.out.get 1 rfl) _ _ rfl rfl) rfl ?_
  exact ⟨rfl, keep_new KW.out (Nat.le_succ _) _⟩
set_option maxRecDepth 100000 in
set_option maxHeartbeats 40000000 in
theorem xput_new (hv : ck n l G T A Q Z = 0) (hl : L.length ≤ 900) (hn : n ≤ 1000000) (hlost : 0 ≤ lost ∧ lost ≤ 1000) (hh : Hd.iv n l G T A Q Z m ∉ L.map fun x : Wt => x.id) :
    Calls Tryz.prog 19 #[.pointer (some ⟨b, 0, none⟩), .agg (hd (.slice a n c) G T A Q Z m).toArray, .int .i64 fr] w fun e w' => ∃ x lv' iv' fv', x.n = n ∧ x.l = l ∧ x.G = G ∧ x.T = T ∧ x.A = A ∧ x.Q = Q ∧ x.Z = Z ∧ x.m = m ∧ x.fr = fr ∧ x.id = Hd.iv n l G T A Q Z m ∧
      ((L.length < 8 ∧ e = .returned (.tuple #[idv Z32, .bool false, .int .i64 0]) ∧ XTo w w' b lv iv fv L lv' iv' fv' (L ++ [x]) lost)
        ∨ (8 ≤ L.length ∧ ∃ y, (L ++ [x])[0]? = some y ∧ e = .returned (.tuple #[idv y.id, .bool true, .int .i64 0]) ∧ XTo w w' b lv iv fv L lv' iv' fv' ((L ++ [x]).drop 1) (min (lost + 1) 1000))) := by
  have A1 : Hid (At w a n l) := h
  have Hm : Hid (m.length = 32) := hm
  have HM : Hid (M (xfoot b lv iv fv L) w _ [blk b (xc lv iv fv lost), rH lv L, rI iv L, rF fv L, pars L, blk w.heap.size (.cells (hd (.slice a n c) G T A Q Z m).toArray 30), blk (w.heap.size + 1) (.cells z32 28)]) := (hp.all.alloc (.cells (hd (.slice a n c) G T A Q Z m).toArray 30) rfl).alloc (.cells z32 28) (b := w.heap.size + 1) (by simp)
  generalize hX : (hd (.slice a n c) G T A Q Z m).toArray = X at HM ⊢
  have HX : Hid ((hd (.slice a n c) G T A Q Z m).toArray = X) := hX
  have KW : Hid (Keep (fun _ => False) w ((w.alloc (.cells X 30)).alloc (.cells z32 28))) := ((Keep.refl _ _).alloc _).alloc _
  have HI : Hid (∀ w, At w a n l → Calls Tryz.prog 16 #[.agg X] w fun e w' => e = .returned (.tuple #[idv (Hd.iv n l G T A Q Z m), .int .i64 0]) ∧ Keep (fun _ => False) w w') := fun w h => by
    have := rident_any w a n c l G T A Q Z m h hm hT
    rwa [hv, hX] at this
  have hul := iv_len n l G T A Q Z m
  generalize Hd.iv n l G T A Q Z m = u at HI hul hh ⊢
  have Hum : Hid ((u.map bv).toArray.size = 32) := by show _ = _; rw [List.size_toArray, List.length_map]; exact hul
  have Hul : Hid (u.length = 32) := hul
  obtain ⟨ha, hc, eh, ah⟩ := hp.rowH
  obtain ⟨ra, rc, er, ar⟩ := hp.rowI
  obtain ⟨fa, fc, ef, af⟩ := hp.rowF
  subst eh er ef
  obtain ⟨q, hq⟩ : ∃ q, L.length = q := ⟨_, rfl⟩
  rw [hq] at ah ar af HM hl ⊢
  have HQ : Hid (L.length = q) := hq
  have HH : Hid (∀ w, At w ra q (L.map fun x : Wt => x.id) → Calls Tryz.prog 17 #[.slice ra q rc, idv u] w fun e w' => e = .returned (.bool false) ∧ Keep (fun _ => False) w w') := fun w hx => by
    have := xhas_any w ra q rc _ hx (by omega) u Hul.out
    rwa [decide_eq_false hh] at this
  have Hl : Hid (L.length ≤ 900) := (by omega : L.length ≤ 900)
  have Hln : Hid (l.length = n) := h.len
  have Hn : Hid (n ≤ 1000000) := hn
  have c1 := HM.out.cell 0 rfl 1 (v := .slice ra q rc) rfl
  have g0 := (h_at HM.out 5 rfl HX.out Hm.out).cells.1
  have hl63 : ¬ 9223372036854775807 < lost + 1 := by omega
  clear h hm hT hv hp hul hX hh hq ah ar af
  go_enter Tryz.func19, Tryz.ntmps19
  go_wp2_with (first | ((with_reducible refine at_load 30 ?_); refine St.wl_load tyH (by rfl) rfl rfl (h_at HM.out 5 rfl HX.out Hm.out).all (hd_len _ _ _ _ _ _ _ Hm.out) ?_; rw [show Value.agg (hd (.slice a n c) G T A Q Z m).toArray = .agg X from congrArg _ HX.out]; simp only [Act.put, List.setIfInBounds_toArray, List.set_cons_zero, List.set_cons_succ]) | (refine St.wl_alloc tyI rfl rfl (by (try simp only [World.size_alloc]); rfl) ?_; simp only [Act.put, List.setIfInBounds_toArray, List.set_cons_zero, List.set_cons_succ]) | (go_at_call 16; refine (HI.out _ (A1.out.calm KW.out)).mono ?_; rintro e w2 ⟨rfl, k2⟩; have HM : Hid _ := HM.out.calm k2; have KW : Hid _ := KW.out.trans k2; clear k2) | (refine St.wl_storeN (W := w2) tyI rfl rfl rfl rfl rfl (by (try simp only [World.size_alloc])) (show _ = Value.agg (u.map bv).toArray from rfl) Hum.out rfl (one_bv _) ?_; have HM : Hid _ := HM.out.alloc (.cells (u.map bv).toArray 28) rfl; have KW : Hid _ := KW.out.alloc (.cells (u.map bv).toArray 28)) | (refine St.wl_buildV (T := 28) (parts := #[]) rfl rfl (cs := z32) (by kernel_rfl) ?_; simp only [Act.put, List.setIfInBounds_toArray, List.set_cons_zero, List.set_cons_succ]))
  have HM : Hid _ := HM.out.drew
  have KW : Hid _ := KW.out.drew
  have cx := HM.out.cell 0 rfl 1 (v := .slice ra q rc) rfl
  refine Txt.wp_region_text (fun _ => True) [0, 0, 0, 1, 1, 4] (by kernel_rfl) (by kernel_rfl) trivial ?_
  (repeat (first | (refine Txt.tl_pure (v := ?_) (by rfl) ?_ ?_; rotate_left; (focus (intro _; go_simp; try with_reducible rfl)); simp only [Act.put, List.setIfInBounds_toArray, List.set_cons_zero, List.set_cons_succ]) | (refine Txt.tl_load (v := ?_) (by rfl) (by rfl) (by rfl) (by kernel_rfl) ?_ ?_; rotate_left; (focus assumption); simp only [Act.put, List.setIfInBounds_toArray, List.set_cons_zero, List.set_cons_succ]) | (refine Txt.tl_loadS (v := ?_) (by rfl) (by rfl) (by rfl) (by kernel_rfl) ?_ ?_; rotate_left; (focus (exact fun _ h => h)); simp only [Act.put, List.setIfInBounds_toArray, List.set_cons_zero, List.set_cons_succ])))
  refine Txt.tl_rowN (n := 32) (ty := 28) (by rfl) (by rfl) (by rfl) (HM.out.range 7 rfl) (by kernel_rfl) (by rw [List.length_map]; exact Hul.out) ?_
  simp only [Act.put, List.setIfInBounds_toArray, List.set_cons_zero, List.set_cons_succ]
  refine Txt.tl_call Tryz.func17 (by kernel_rfl) (by kernel_rfl) (by rfl) (by rfl) (by rfl) (vs := #[.slice ra q rc, idv u]) (HH.out _ (xids (HM.out.get 2 rfl))) ?_
  rintro e w3 ⟨rfl, k3⟩
  have HM : Hid _ := HM.out.calm k3
  have KW : Hid _ := KW.out.trans k3
  clear k3
  clear cx
  refine ⟨_, rfl, trivial, ?_⟩
  simp only [Act.put, List.setIfInBounds_toArray, List.set_cons_zero, List.set_cons_succ]
  (repeat (first | (refine Txt.tl_pure (v := ?_) (by rfl) ?_ ?_; rotate_left; (focus (intro _; go_simp; try with_reducible rfl)); simp only [Act.put, List.setIfInBounds_toArray, List.set_cons_zero, List.set_cons_succ]) | (refine Txt.tl_load (v := ?_) (by rfl) (by rfl) (by rfl) (by kernel_rfl) ?_ ?_; rotate_left; (focus assumption); simp only [Act.put, List.setIfInBounds_toArray, List.set_cons_zero, List.set_cons_succ]) | (refine Txt.tl_loadS (v := ?_) (by rfl) (by rfl) (by rfl) (by kernel_rfl) ?_ ?_; rotate_left; (focus (exact fun _ h => h)); simp only [Act.put, List.setIfInBounds_toArray, List.set_cons_zero, List.set_cons_succ])))
  refine Txt.tl_nil ?_
  have HXs : Hid (X.size = 38) := by show _ = _; rw [← HX.out]; exact hd_sz Hm.out
  have HXo : Hid (X.all (·.oneCell') = true) := by show _ = _; rw [← HX.out]; exact hd_one _ _ _ _ _ _ _ _ _
  clear g0 c1
  go_wp2_with (first | ((with_reducible refine at_load 30 ?_); refine St.wl_load tyH (by rfl) rfl rfl (h_at HM.out 5 rfl HX.out Hm.out).all (hd_len _ _ _ _ _ _ _ Hm.out) ?_; rw [show Value.agg (hd (.slice a n c) G T A Q Z m).toArray = .agg X from congrArg _ HX.out]; simp only [Act.put, List.setIfInBounds_toArray, List.set_cons_zero, List.set_cons_succ]) | (refine St.wl_alloc tyH rfl rfl (by (try simp only [World.size_alloc]); rfl) ?_; simp only [Act.put, List.setIfInBounds_toArray, List.set_cons_zero, List.set_cons_succ]) | (refine St.wl_storeN (W := w3) tyH rfl rfl rfl rfl rfl (by (try simp only [World.size_alloc])) (show _ = Value.agg X from rfl) HXs.out rfl HXo.out ?_; have HM : Hid _ := HM.out.alloc (.cells X 30) rfl; have KW : Hid _ := KW.out.alloc (.cells X 30)) | (refine St.wl_build0z slI rfl rfl (b := w3.heap.size + 1) (by simp only [World.size_alloc]) ?_; have HM : Hid _ := M.id0 HM.out (b := w3.heap.size + 1) (by simp only [World.size_alloc]); have KW : Hid _ := KW.out.alloc (.cells #[] 28); have g0 := (h_at HM.out 5 rfl HX.out Hm.out).cells.1; simp only [Act.put, List.setIfInBounds_toArray, List.set_cons_zero, List.set_cons_succ]) | (refine Ids.wl_appR rfl rfl rfl (HM.out.get 9 rfl) rfl (A1.out.calm KW.out) (by have := Hn.out; simp; omega) ?_; intro v4 w4 h1 k1 h3; obtain ⟨a4, c4, e4, _⟩ := h1.at; rw [List.nil_append, Hln.out] at e4; subst e4; have HM : Hid _ := HM.out.appI 9 rfl h1 k1 h3; have f0 := HM.out.free 8 rfl 0; have d8 := HM.out.cell 8 rfl 0 (v := .slice a n c) (by rw [← HX.out]; rfl); clear h1 k1 h3; simp only [Act.put, List.setIfInBounds_toArray, List.set_cons_zero, List.set_cons_succ]))
  have HM := HM.out.setc 8 rfl 0 (.slice a4 n c4)
  have hX3 : X.setIfInBounds 0 (.slice a4 n c4) = (hd (.slice a4 n c4) G T A Q Z m).toArray := by rw [← HX.out]; exact hd_set _ _ _ _ _ _ _ _
  rw [hX3, List.nil_append] at HM
  clear hX3 f0 d8
  obtain ⟨x, hx⟩ : ∃ x : Wt, (⟨a4, n, c4, l, G, T, A, Q, Z, m, Hm.out, u, Hul.out, fr⟩ : Wt) = x := ⟨_, rfl⟩
  have Hxh : Hid ((hd (.slice a4 n c4) G T A Q Z m).toArray = (hv x).toArray) := by rw [← hx]; exact rfl
  have Hxi : Hid ((u.map bv).toArray = (eI x).toArray) := by rw [← hx]; exact rfl
  have Hxf : Hid (x.fr = fr) := by rw [← hx]; exact rfl
  have Hxp : Hid (x.a = a4 ∧ x.n = n ∧ x.c = c4 ∧ x.l = l) := by rw [← hx]; exact ⟨rfl, rfl, rfl, rfl⟩
  have HX2 : Hid (x.n = n ∧ x.l = l ∧ x.G = G ∧ x.T = T ∧ x.A = A ∧ x.Q = Q ∧ x.Z = Z ∧ x.m = m ∧ x.fr = fr ∧ x.id = u) := by rw [← hx]; exact ⟨rfl, rfl, rfl, rfl, rfl, rfl, rfl, rfl, rfl, rfl⟩
  rw [Hxh.out] at HM
  have HM : Hid _ := HM
  clear hx
  obtain ⟨k, hk⟩ : ∃ k, L.length + 1 = k := ⟨_, rfl⟩
  have Hk : Hid (L.length + 1 = k) := hk
  clear hk
  refine Txt.region_to (fun a a' w' => ∃ (u1 u6 u8 : Value) (a7 : Option Addr) (c7 : Nat), a' = ((((((((((((a.put (some 35) (.pointer (some ⟨b, 0, none⟩))).put (some 36) (u1)).put (some 37) (.pointer (some ⟨b, 0, none⟩))).put (some 38) (.pointer (some ⟨b, 0, none⟩))).put (some 39) (.pointer (some ⟨b, 0, none⟩))).put (some 40) (.slice ha q hc)).put (some 41) (u6)).put (some 42) ((.agg ((hv x).toArray)))).put (some 43) (u8)).put (some 44) (.slice a7 (L.length + 1) c7)).put (some 45) (.pointer (some ⟨b, 0, none⟩))).put (some 46) (.pointer (some ⟨b, 0, none⟩))) ∧ Hid (M (xfoot b (.slice ha q hc) (.slice ra q rc) (.slice fa q fc) L) w w' [blk b (xc (.slice a7 (L.length + 1) c7) (.slice ra q rc) (.slice fa q fc) lost), rH (.slice a7 (L.length + 1) c7) (L ++ [x]), rI (.slice ra q rc) L, rF (.slice fa q fc) L, pars L, blk (w.heap.size + 1) (.cells z32 28), blk w2.heap.size (.cells (u.map bv).toArray 28), ids (.slice a4 n c4) l])) ?_ ?_
  · refine wp_region_any (by kernel_rfl) ?_
    change wpAny _ _ _ _ _ _ _ (World.drew _)
    have HM : Hid _ := HM.out.drew
    refine wpAny_take (i := 0) (v := ?_) rfl (by kernel_rfl) (by kernel_rfl) (by kernel_rfl) (fun _ _ _ h => by cases h.1) (Or.inl ⟨by rfl, ?_⟩) ?_
    rotate_left
    · (intro w; go_simp; try with_reducible rfl)
    simp only [Act.put, List.setIfInBounds_toArray, List.set_cons_zero, List.set_cons_succ]
    refine wpAny_take (i := 2) (v := ?_) rfl (by kernel_rfl) (by kernel_rfl) (by kernel_rfl) (fun _ _ _ h => by cases h.1) (Or.inl ⟨by rfl, ?_⟩) ?_
    rotate_left
    · (intro w; go_simp; try with_reducible rfl)
    simp only [Act.put, List.setIfInBounds_toArray, List.set_cons_zero, List.set_cons_succ]
    refine wpAny_take (i := 3) (v := ?_) rfl (by kernel_rfl) (by kernel_rfl) (by kernel_rfl) (fun _ _ _ h => by cases h.1) (Or.inl ⟨by rfl, ?_⟩) ?_
    rotate_left
    · (intro w; go_simp; try with_reducible rfl)
    simp only [Act.put, List.setIfInBounds_toArray, List.set_cons_zero, List.set_cons_succ]
    refine wpAny_take (i := 4) (v := ?_) rfl (by kernel_rfl) (by kernel_rfl) (by kernel_rfl) (fun _ _ _ h => by cases h.1) (Or.inl ⟨by rfl, ?_⟩) ?_
    rotate_left
    · (intro w; go_simp; try with_reducible rfl)
    simp only [Act.put, List.setIfInBounds_toArray, List.set_cons_zero, List.set_cons_succ]
    repeat' (first | ((with_reducible refine Txt.is_any ?_); first | (refine Txt.any3 1 5 7 (by decide) (by decide) (by decide) (by kernel_rfl) (by decide +kernel) ?_ ?_ ?_ <;> (simp only [List.getElem_toArray, List.getElem_cons_succ, List.getElem_cons_zero])) | (refine Txt.any2 5 7 (by decide) (by decide) (by kernel_rfl) (by decide +kernel) ?_ ?_ <;> (simp only [List.getElem_toArray, List.getElem_cons_succ, List.getElem_cons_zero])) | (refine Txt.any2 1 7 (by decide) (by decide) (by kernel_rfl) (by decide +kernel) ?_ ?_ <;> (simp only [List.getElem_toArray, List.getElem_cons_succ, List.getElem_cons_zero])) | (refine Txt.any2 6 7 (by decide) (by decide) (by kernel_rfl) (by decide +kernel) ?_ ?_ <;> (simp only [List.getElem_toArray, List.getElem_cons_succ, List.getElem_cons_zero])) | (refine Txt.any1 7 (by decide) (by kernel_rfl) (by decide +kernel) ?_ <;> (simp only [List.getElem_toArray, List.getElem_cons_succ, List.getElem_cons_zero])) | (refine Txt.any3 1 5 8 (by decide) (by decide) (by decide) (by kernel_rfl) (by decide +kernel) ?_ ?_ ?_ <;> (simp only [List.getElem_toArray, List.getElem_cons_succ, List.getElem_cons_zero])) | (refine Txt.any2 5 8 (by decide) (by decide) (by kernel_rfl) (by decide +kernel) ?_ ?_ <;> (simp only [List.getElem_toArray, List.getElem_cons_succ, List.getElem_cons_zero])) | (refine Txt.any2 1 8 (by decide) (by decide) (by kernel_rfl) (by decide +kernel) ?_ ?_ <;> (simp only [List.getElem_toArray, List.getElem_cons_succ, List.getElem_cons_zero])) | (refine Txt.any2 6 8 (by decide) (by decide) (by kernel_rfl) (by decide +kernel) ?_ ?_ <;> (simp only [List.getElem_toArray, List.getElem_cons_succ, List.getElem_cons_zero])) | (refine Txt.any1 8 (by decide) (by kernel_rfl) (by decide +kernel) ?_ <;> (simp only [List.getElem_toArray, List.getElem_cons_succ, List.getElem_cons_zero])) | (refine Txt.any2 1 5 (by decide) (by decide) (by kernel_rfl) (by decide +kernel) ?_ ?_ <;> (simp only [List.getElem_toArray, List.getElem_cons_succ, List.getElem_cons_zero])) | (refine Txt.any1 5 (by decide) (by kernel_rfl) (by decide +kernel) ?_ <;> (simp only [List.getElem_toArray, List.getElem_cons_succ, List.getElem_cons_zero])) | (refine Txt.any1 1 (by decide) (by kernel_rfl) (by decide +kernel) ?_ <;> (simp only [List.getElem_toArray, List.getElem_cons_succ, List.getElem_cons_zero])) | (refine Txt.any1 6 (by decide) (by kernel_rfl) (by decide +kernel) ?_ <;> (simp only [List.getElem_toArray, List.getElem_cons_succ, List.getElem_cons_zero])) | (refine Txt.any1 9 (by decide) (by kernel_rfl) (by decide +kernel) ?_ <;> (simp only [List.getElem_toArray, List.getElem_cons_succ, List.getElem_cons_zero])) | (refine Txt.any1 12 (by decide) (by kernel_rfl) (by decide +kernel) ?_ <;> (simp only [List.getElem_toArray, List.getElem_cons_succ, List.getElem_cons_zero])) | (refine wpAny_take (i := 10) (v := ?_) rfl (by kernel_rfl) (by decide +kernel) (by decide +kernel) (fun _ _ _ h => by cases h.1) (Or.inl ⟨by rfl, ?_⟩) ?_; rotate_left; (focus (intro w; go_simp; try with_reducible rfl)); simp only [Act.put, List.setIfInBounds_toArray, List.set_cons_zero, List.set_cons_succ]) | (refine wpAny_take (i := 11) (v := ?_) rfl (by kernel_rfl) (by decide +kernel) (by decide +kernel) (fun _ _ _ h => by cases h.1) (Or.inl ⟨by rfl, ?_⟩) ?_; rotate_left; (focus (intro w; go_simp; try with_reducible rfl)); simp only [Act.put, List.setIfInBounds_toArray, List.set_cons_zero, List.set_cons_succ]) | (refine wpAny_done (by decide +kernel) ?_ _; refine ⟨rfl, ?_⟩; exact ⟨_, _, _, _, _, rfl, HM.out.sub _ [0, 10, 2, 3, 4, 6, 7, 9] (by decide) rfl⟩) | (refine wpAny_done (by decide +kernel) ?_ _; refine ⟨rfl, ?_⟩; exact ⟨_, _, _, _, _, rfl, HM.out.sub _ [0, 11, 2, 3, 4, 6, 7, 9] (by decide) rfl⟩)) | ((with_reducible refine Txt.is_op ?_); first | ((with_reducible refine Txt.is_dst 36 ?_); refine St.wp_build0z slH rfl ?_; have HM : Hid _ := Mem.M.row0 HM.out (T := 30) encH rfl; simp only [Act.put, List.setIfInBounds_toArray, List.set_cons_zero, List.set_cons_succ]) | ((with_reducible refine Txt.is_dst 40 ?_); refine Txt.wp_ld (v := .slice ha q hc) (ty := 22) rfl rfl (by kernel_rfl) (HM.out.cell 0 rfl 0 rfl) ?_; simp only [Act.put, List.setIfInBounds_toArray, List.set_cons_zero, List.set_cons_succ]) | ((with_reducible refine Txt.is_dst 42 ?_); refine Txt.wp_ldN (n := 38) (ty := 30) rfl rfl (HM.out.range 8 rfl) (by kernel_rfl) (hv_len x) ?_; simp only [Act.put, List.setIfInBounds_toArray, List.set_cons_zero, List.set_cons_succ]) | ((with_reducible refine Txt.is_dst 43 ?_); refine St.wp_build slH (by decide) rfl (hv_len x) rfl ?_; have HM : Hid _ := HM.out.alloc (.cells ((hv x).toArray) 30) rfl; simp only [Act.put, List.setIfInBounds_toArray, List.set_cons_zero, List.set_cons_succ]) | ((with_reducible refine Txt.is_dst 41 ?_); first | (refine St.wp_appRz encH slH (by decide) rfl rfl (HM.out.get 10 rfl) rfl (own_sl (HM.out.get 1 rfl)) (by simp; omega) ?_; intro v6 w6 h6 k6 g6; have HM : Hid _ := HM.out.appR 10 rfl h6 k6 g6; clear h6 k6 g6; simp only [Act.put, List.setIfInBounds_toArray, List.set_cons_zero, List.set_cons_succ]) | (refine St.wp_appRz encH slH (by decide) rfl rfl (HM.out.get 11 rfl) rfl (own_sl (HM.out.get 1 rfl)) (by simp; omega) ?_; intro v6 w6 h6 k6 g6; have HM : Hid _ := HM.out.appR 11 rfl h6 k6 g6; clear h6 k6 g6; simp only [Act.put, List.setIfInBounds_toArray, List.set_cons_zero, List.set_cons_succ])) | ((with_reducible refine Txt.is_dst 44 ?_); first | (refine St.wp_app1z encH slH (by decide) rfl rfl (HM.out.get 10 rfl) rfl x rfl (HM.out.get 11 rfl) (by simp; have := Hl.out; omega) ?_; intro v7 w7 h7 k7 g7; obtain ⟨a7, c7, e7, _⟩ := h7.any; subst e7; have HM : Hid _ := HM.out.appR 10 rfl h7 k7 g7; rw [List.nil_append, List.length_append] at HM; clear h7 k7 g7; simp only [Act.put, List.setIfInBounds_toArray, List.set_cons_zero, List.set_cons_succ]) | (refine St.wp_app1z encH slH (by decide) rfl rfl (HM.out.get 11 rfl) rfl x rfl (HM.out.get 10 rfl) (by simp; have := Hl.out; omega) ?_; intro v7 w7 h7 k7 g7; obtain ⟨a7, c7, e7, _⟩ := h7.any; subst e7; have HM : Hid _ := HM.out.appR 11 rfl h7 k7 g7; rw [List.nil_append, List.length_append] at HM; clear h7 k7 g7; simp only [Act.put, List.setIfInBounds_toArray, List.set_cons_zero, List.set_cons_succ])) | ((with_reducible refine Txt.is_nodst ?_); have f0 := HM.out.free 0 rfl 0; have d0 := HM.out.cell 0 rfl 0 (v := .slice ha q hc) rfl; unfold Oper.wp; go_simp; have HM : Hid _ := HM.out.setc 0 rfl 0 (.slice a7 (L.length + 1) c7); clear f0 d0)))
  rintro a' wb0 ⟨u1, u6, u8, b0, d0, rfl, hM⟩
  have HM : Hid _ := hM.out
  clear hM
  simp only [Act.put, List.setIfInBounds_toArray, List.set_cons_zero, List.set_cons_succ]
  have HM := HM.out
  rw [Hk.out, Hxi.out] at HM
  rw [Hk.out]
  have HM : Hid _ := HM
  go_wp2
  refine Txt.region_to (fun a a' w' => ∃ (u1 u6 u8 : Value) (a7 : Option Addr) (c7 : Nat), a' = ((((((((((((a.put (some 47) (.pointer (some ⟨b, 0, none⟩))).put (some 48) (u1)).put (some 49) (.pointer (some ⟨b, 0, none⟩))).put (some 50) (.pointer (some ⟨b, 0, none⟩))).put (some 51) (.pointer (some ⟨b, 1, none⟩))).put (some 52) (.slice ra q rc)).put (some 53) (u6)).put (some 54) ((.agg ((eI x).toArray)))).put (some 55) (u8)).put (some 56) (.slice a7 (L.length + 1) c7)).put (some 57) (.pointer (some ⟨b, 0, none⟩))).put (some 58) (.pointer (some ⟨b, 1, none⟩))) ∧ Hid (M (xfoot b (.slice ha q hc) (.slice ra q rc) (.slice fa q fc) L) w w' [blk b (xc (.slice b0 k d0) (.slice a7 (L.length + 1) c7) (.slice fa q fc) lost), rH (.slice b0 k d0) (L ++ [x]), rI (.slice a7 (L.length + 1) c7) (L ++ [x]), rF (.slice fa q fc) L, pars L, blk (w.heap.size + 1) (.cells z32 28), ids (.slice a4 n c4) l])) ?_ ?_
  · refine wp_region_any (by kernel_rfl) ?_
    change wpAny _ _ _ _ _ _ _ (World.drew _)
    have HM : Hid _ := HM.out.drew
    refine wpAny_take (i := 0) (v := ?_) rfl (by kernel_rfl) (by kernel_rfl) (by kernel_rfl) (fun _ _ _ h => by cases h.1) (Or.inl ⟨by rfl, ?_⟩) ?_
    rotate_left
    · (intro w; go_simp; try with_reducible rfl)
    simp only [Act.put, List.setIfInBounds_toArray, List.set_cons_zero, List.set_cons_succ]
    refine wpAny_take (i := 2) (v := ?_) rfl (by kernel_rfl) (by kernel_rfl) (by kernel_rfl) (fun _ _ _ h => by cases h.1) (Or.inl ⟨by rfl, ?_⟩) ?_
    rotate_left
    · (intro w; go_simp; try with_reducible rfl)
    simp only [Act.put, List.setIfInBounds_toArray, List.set_cons_zero, List.set_cons_succ]
    refine wpAny_take (i := 3) (v := ?_) rfl (by kernel_rfl) (by kernel_rfl) (by kernel_rfl) (fun _ _ _ h => by cases h.1) (Or.inl ⟨by rfl, ?_⟩) ?_
    rotate_left
    · (intro w; go_simp; try with_reducible rfl)
    simp only [Act.put, List.setIfInBounds_toArray, List.set_cons_zero, List.set_cons_succ]
    refine wpAny_take (i := 4) (v := ?_) rfl (by kernel_rfl) (by kernel_rfl) (by kernel_rfl) (fun _ _ _ h => by cases h.1) (Or.inl ⟨by rfl, ?_⟩) ?_
    rotate_left
    · (intro w; go_simp; try with_reducible rfl)
    simp only [Act.put, List.setIfInBounds_toArray, List.set_cons_zero, List.set_cons_succ]
    repeat' (first | ((with_reducible refine Txt.is_any ?_); first | (refine Txt.any3 1 5 7 (by decide) (by decide) (by decide) (by kernel_rfl) (by decide +kernel) ?_ ?_ ?_ <;> (simp only [List.getElem_toArray, List.getElem_cons_succ, List.getElem_cons_zero])) | (refine Txt.any2 5 7 (by decide) (by decide) (by kernel_rfl) (by decide +kernel) ?_ ?_ <;> (simp only [List.getElem_toArray, List.getElem_cons_succ, List.getElem_cons_zero])) | (refine Txt.any2 1 7 (by decide) (by decide) (by kernel_rfl) (by decide +kernel) ?_ ?_ <;> (simp only [List.getElem_toArray, List.getElem_cons_succ, List.getElem_cons_zero])) | (refine Txt.any2 6 7 (by decide) (by decide) (by kernel_rfl) (by decide +kernel) ?_ ?_ <;> (simp only [List.getElem_toArray, List.getElem_cons_succ, List.getElem_cons_zero])) | (refine Txt.any1 7 (by decide) (by kernel_rfl) (by decide +kernel) ?_ <;> (simp only [List.getElem_toArray, List.getElem_cons_succ, List.getElem_cons_zero])) | (refine Txt.any3 1 5 8 (by decide) (by decide) (by decide) (by kernel_rfl) (by decide +kernel) ?_ ?_ ?_ <;> (simp only [List.getElem_toArray, List.getElem_cons_succ, List.getElem_cons_zero])) | (refine Txt.any2 5 8 (by decide) (by decide) (by kernel_rfl) (by decide +kernel) ?_ ?_ <;> (simp only [List.getElem_toArray, List.getElem_cons_succ, List.getElem_cons_zero])) | (refine Txt.any2 1 8 (by decide) (by decide) (by kernel_rfl) (by decide +kernel) ?_ ?_ <;> (simp only [List.getElem_toArray, List.getElem_cons_succ, List.getElem_cons_zero])) | (refine Txt.any2 6 8 (by decide) (by decide) (by kernel_rfl) (by decide +kernel) ?_ ?_ <;> (simp only [List.getElem_toArray, List.getElem_cons_succ, List.getElem_cons_zero])) | (refine Txt.any1 8 (by decide) (by kernel_rfl) (by decide +kernel) ?_ <;> (simp only [List.getElem_toArray, List.getElem_cons_succ, List.getElem_cons_zero])) | (refine Txt.any2 1 5 (by decide) (by decide) (by kernel_rfl) (by decide +kernel) ?_ ?_ <;> (simp only [List.getElem_toArray, List.getElem_cons_succ, List.getElem_cons_zero])) | (refine Txt.any1 5 (by decide) (by kernel_rfl) (by decide +kernel) ?_ <;> (simp only [List.getElem_toArray, List.getElem_cons_succ, List.getElem_cons_zero])) | (refine Txt.any1 1 (by decide) (by kernel_rfl) (by decide +kernel) ?_ <;> (simp only [List.getElem_toArray, List.getElem_cons_succ, List.getElem_cons_zero])) | (refine Txt.any1 6 (by decide) (by kernel_rfl) (by decide +kernel) ?_ <;> (simp only [List.getElem_toArray, List.getElem_cons_succ, List.getElem_cons_zero])) | (refine Txt.any1 9 (by decide) (by kernel_rfl) (by decide +kernel) ?_ <;> (simp only [List.getElem_toArray, List.getElem_cons_succ, List.getElem_cons_zero])) | (refine Txt.any1 12 (by decide) (by kernel_rfl) (by decide +kernel) ?_ <;> (simp only [List.getElem_toArray, List.getElem_cons_succ, List.getElem_cons_zero])) | (refine wpAny_take (i := 10) (v := ?_) rfl (by kernel_rfl) (by decide +kernel) (by decide +kernel) (fun _ _ _ h => by cases h.1) (Or.inl ⟨by rfl, ?_⟩) ?_; rotate_left; (focus (intro w; go_simp; try with_reducible rfl)); simp only [Act.put, List.setIfInBounds_toArray, List.set_cons_zero, List.set_cons_succ]) | (refine wpAny_take (i := 11) (v := ?_) rfl (by kernel_rfl) (by decide +kernel) (by decide +kernel) (fun _ _ _ h => by cases h.1) (Or.inl ⟨by rfl, ?_⟩) ?_; rotate_left; (focus (intro w; go_simp; try with_reducible rfl)); simp only [Act.put, List.setIfInBounds_toArray, List.set_cons_zero, List.set_cons_succ]) | (refine wpAny_done (by decide +kernel) ?_ _; refine ⟨rfl, ?_⟩; exact ⟨_, _, _, _, _, rfl, HM.out.sub _ [0, 1, 8, 3, 4, 5, 7] (by decide) rfl⟩) | (refine wpAny_done (by decide +kernel) ?_ _; refine ⟨rfl, ?_⟩; exact ⟨_, _, _, _, _, rfl, HM.out.sub _ [0, 1, 9, 3, 4, 5, 7] (by decide) rfl⟩)) | ((with_reducible refine Txt.is_op ?_); first | ((with_reducible refine Txt.is_dst 48 ?_); refine St.wp_build0z slI rfl ?_; have HM : Hid _ := Mem.M.row0 HM.out (T := 28) encI rfl; simp only [Act.put, List.setIfInBounds_toArray, List.set_cons_zero, List.set_cons_succ]) | ((with_reducible refine Txt.is_dst 52 ?_); refine Txt.wp_ld (v := .slice ra q rc) (ty := 26) rfl rfl (by kernel_rfl) (HM.out.cell 0 rfl 1 rfl) ?_; simp only [Act.put, List.setIfInBounds_toArray, List.set_cons_zero, List.set_cons_succ]) | ((with_reducible refine Txt.is_dst 54 ?_); refine Txt.wp_ldN (n := 32) (ty := 28) rfl rfl (HM.out.range 6 rfl) (by kernel_rfl) (encI.len x) ?_; simp only [Act.put, List.setIfInBounds_toArray, List.set_cons_zero, List.set_cons_succ]) | ((with_reducible refine Txt.is_dst 55 ?_); refine St.wp_build slI (by decide) rfl (encI.len x) rfl ?_; have HM : Hid _ := HM.out.alloc (.cells ((eI x).toArray) 28) rfl; simp only [Act.put, List.setIfInBounds_toArray, List.set_cons_zero, List.set_cons_succ]) | ((with_reducible refine Txt.is_dst 53 ?_); first | (refine St.wp_appRz encI slI (by decide) rfl rfl (HM.out.get 8 rfl) rfl (own_sl (HM.out.get 2 rfl)) (by simp; omega) ?_; intro v6 w6 h6 k6 g6; have HM : Hid _ := HM.out.appR 8 rfl h6 k6 g6; clear h6 k6 g6; simp only [Act.put, List.setIfInBounds_toArray, List.set_cons_zero, List.set_cons_succ]) | (refine St.wp_appRz encI slI (by decide) rfl rfl (HM.out.get 9 rfl) rfl (own_sl (HM.out.get 2 rfl)) (by simp; omega) ?_; intro v6 w6 h6 k6 g6; have HM : Hid _ := HM.out.appR 9 rfl h6 k6 g6; clear h6 k6 g6; simp only [Act.put, List.setIfInBounds_toArray, List.set_cons_zero, List.set_cons_succ])) | ((with_reducible refine Txt.is_dst 56 ?_); first | (refine St.wp_app1z encI slI (by decide) rfl rfl (HM.out.get 8 rfl) rfl x rfl (HM.out.get 9 rfl) (by simp; have := Hl.out; omega) ?_; intro v7 w7 h7 k7 g7; obtain ⟨a7, c7, e7, _⟩ := h7.any; subst e7; have HM : Hid _ := HM.out.appR 8 rfl h7 k7 g7; rw [List.nil_append, List.length_append] at HM; clear h7 k7 g7; simp only [Act.put, List.setIfInBounds_toArray, List.set_cons_zero, List.set_cons_succ]) | (refine St.wp_app1z encI slI (by decide) rfl rfl (HM.out.get 9 rfl) rfl x rfl (HM.out.get 8 rfl) (by simp; have := Hl.out; omega) ?_; intro v7 w7 h7 k7 g7; obtain ⟨a7, c7, e7, _⟩ := h7.any; subst e7; have HM : Hid _ := HM.out.appR 9 rfl h7 k7 g7; rw [List.nil_append, List.length_append] at HM; clear h7 k7 g7; simp only [Act.put, List.setIfInBounds_toArray, List.set_cons_zero, List.set_cons_succ])) | ((with_reducible refine Txt.is_nodst ?_); have f0 := HM.out.free 0 rfl 1; have d0 := HM.out.cell 0 rfl 1 (v := .slice ra q rc) rfl; unfold Oper.wp; go_simp; have HM : Hid _ := HM.out.setc 0 rfl 1 (.slice a7 (L.length + 1) c7); clear f0 d0)))
  rintro a' wb1 ⟨u1, u6, u8, b1, d1, rfl, hM⟩
  have HM : Hid _ := hM.out
  clear hM
  simp only [Act.put, List.setIfInBounds_toArray, List.set_cons_zero, List.set_cons_succ]
  have HM := HM.out
  rw [Hk.out] at HM
  rw [Hk.out]
  have HM : Hid _ := HM
  have c2 := HM.out.cell 0 rfl 2 (v := .slice fa q fc) rfl
  have c0 := HM.out.cell 0 rfl 0 (v := .slice b0 k d0) rfl
  have c1 := HM.out.cell 0 rfl 1 (v := .slice b1 k d1) rfl
  have HU : Hid (∀ (F : Nat → Prop) (w0 W : World) (p : List It) (V0 V1 V2 : Value), M F w0 W (p ++ [blk b (xc V0 V1 V2 lost), rH V0 (L ++ [x]), rI V1 (L ++ [x]), rF V2 (L ++ [x]), pars L, ids (.slice a4 n c4) l]) → M F w0 W (p ++ xit b V0 V1 V2 (L ++ [x]) lost)) := fun F w0 W p V0 V1 V2 h => by
    obtain ⟨e1, e2, e3, e4⟩ := Hxp.out
    have h2 := add_par (x := x) (l := p ++ [blk b (xc V0 V1 V2 lost), rH V0 (L ++ [x]), rI V1 (L ++ [x]), rF V2 (L ++ [x])]) (L := L) (by rw [e1, e2, e3, e4, List.append_assoc]; exact h)
    rw [List.append_assoc] at h2
    exact h2
  have Hout : Hid (∀ w lv iv fv, XAt w b lv iv fv (L ++ [x]) lost → Calls Tryz.prog 60 #[.pointer (some ⟨b, 0, none⟩), .int .i64 0] w fun e w' => e = .returned (.tuple #[]) ∧ ∃ lv' iv' fv', XTo w w' b lv iv fv (L ++ [x]) lv' iv' fv' ((L ++ [x]).drop 1) lost) := fun w lv iv fv h => by
    have := xoutTo w b lv iv fv (L ++ [x]) lost h (by rw [List.length_append]; have := Hl.out; simp; omega) 0 (by rw [List.length_append]; simp)
    rwa [List.take_zero, List.nil_append] at this
  have hk1 : 0 < k := by have := Hk.out; omega
  by_cases hlt : k ≤ 8
  · have hki : (k : Int) ≤ 8 := by omega
    clear hlt c1
    go_wp2_with (first | (refine St.wl_build0z slF rfl rfl rfl ?_; have HM : Hid _ := Mem.M.row0 HM.out (T := 3) encF rfl; have c2 := HM.out.cell 0 rfl 2 (v := .slice fa q fc) rfl; simp only [Act.put, List.setIfInBounds_toArray, List.set_cons_zero, List.set_cons_succ]) | (refine St.wl_appRz encF slF (by decide) rfl rfl rfl (HM.out.get 7 rfl) rfl (own_sl (HM.out.get 3 rfl)) (by simp; omega) ?_; intro v6 w6 h6 k6 g6; have HM : Hid _ := HM.out.appR 7 rfl h6 k6 g6; clear h6 k6 g6; simp only [Act.put, List.setIfInBounds_toArray, List.set_cons_zero, List.set_cons_succ]) | (have HM : Hid _ := HM.out.alloc (.cells #[.int .i64 fr] 3) rfl; refine St.wl_app1z encF slF (by decide) rfl rfl rfl (HM.out.get 7 rfl) rfl x (by unfold eF; rw [Hxf.out]) (HM.out.get 8 rfl) (by simp; have := Hl.out; omega) ?_; intro v7 w7 h7 k7 g7; obtain ⟨d2, e2, e7, _⟩ := h7.any; subst e7; have HM : Hid _ := HM.out.appR 7 rfl h7 k7 g7; have c2 := HM.out.cell 0 rfl 2 (v := .slice fa q fc) rfl; have c0 := HM.out.cell 0 rfl 0 (v := .slice b0 k d0) rfl; have c1 := HM.out.cell 0 rfl 1 rfl; have f2 := HM.out.free 0 rfl 2; rw [List.nil_append, List.length_append] at HM; clear h7 k7 g7; simp only [Act.put, List.setIfInBounds_toArray, List.set_cons_zero, List.set_cons_succ])       | (refine St.wl_buildV (T := 28) (parts := #[]) rfl rfl (cs := z32) (by kernel_rfl) ?_; simp only [Act.put, List.setIfInBounds_toArray, List.set_cons_zero, List.set_cons_succ])       | (have HM : Hid _ := HM.out.setc 0 rfl 2 (.slice d2 (L.length + 1) e2); refine St.wl_store tyI rfl rfl rfl rfl rfl (cs := z32) rfl (one_bv (List.replicate 32 0)) (HM.out.get 5 rfl) rfl ?_; have HM : Hid _ := HM.out.setr 5 rfl z32))
    refine bodyPost_ret (St.res3 tyI rfl _ _ _ z32 rfl rfl (HM.out.get 5 rfl) _ _ rfl rfl) rfl ?_
    obtain ⟨x1, x2, x3, x4, x5, x6, x7, x8, x9, x10⟩ := HX2.out
    have HE := HU.out _ _ _ [] (.slice b0 k d0) (.slice b1 k d1) (.slice d2 (L.length + 1) e2) (HM.out.sub _ [0, 1, 2, 7, 4, 6] (by decide) rfl)
    exact ⟨x, .slice b0 k d0, .slice b1 k d1, .slice d2 (L.length + 1) e2, x1, x2, x3, x4, x5, x6, x7, x8, x9, x10, .inl ⟨by have := Hk.out; have := HQ.out; omega, rfl, xTo HE⟩⟩
  · have hki : ¬ (k : Int) ≤ 8 := by omega
    obtain ⟨y, hy⟩ : ∃ y, (L ++ [x])[0]? = some y := ⟨_, List.getElem?_eq_getElem (by simp)⟩
    have Hy : Hid _ := hy
    have Hyl : Hid ((y.id.map bv).toArray.size = 32) := by show _ = _; rw [List.size_toArray, List.length_map, y.hid]
    obtain ⟨g1, q1, e1, _⟩ := own_some (show St.Own _ _ _ _ (.slice b1 k d1) (L ++ [x]) from HM.out.get 2 rfl) (by simp)
    simp only [Value.slice.injEq] at e1
    obtain ⟨e1, -, -⟩ := e1
    subst e1
    have Hhk : Hid (8 < k) := (by omega : 8 < k)
    clear hlt hy
    go_wp2_with (first | (refine St.wl_build0z slF rfl rfl rfl ?_; have HM : Hid _ := Mem.M.row0 HM.out (T := 3) encF rfl; have c2 := HM.out.cell 0 rfl 2 (v := .slice fa q fc) rfl; simp only [Act.put, List.setIfInBounds_toArray, List.set_cons_zero, List.set_cons_succ]) | (refine St.wl_appRz encF slF (by decide) rfl rfl rfl (HM.out.get 7 rfl) rfl (own_sl (HM.out.get 3 rfl)) (by simp; omega) ?_; intro v6 w6 h6 k6 g6; have HM : Hid _ := HM.out.appR 7 rfl h6 k6 g6; clear h6 k6 g6; simp only [Act.put, List.setIfInBounds_toArray, List.set_cons_zero, List.set_cons_succ]) | (have HM : Hid _ := HM.out.alloc (.cells #[.int .i64 fr] 3) rfl; refine St.wl_app1z encF slF (by decide) rfl rfl rfl (HM.out.get 7 rfl) rfl x (by unfold eF; rw [Hxf.out]) (HM.out.get 8 rfl) (by simp; have := Hl.out; omega) ?_; intro v7 w7 h7 k7 g7; obtain ⟨d2, e2, e7, _⟩ := h7.any; subst e7; have HM : Hid _ := HM.out.appR 7 rfl h7 k7 g7; have c2 := HM.out.cell 0 rfl 2 (v := .slice fa q fc) rfl; have c0 := HM.out.cell 0 rfl 0 (v := .slice b0 k d0) rfl; have c1 := HM.out.cell 0 rfl 1 rfl; have f2 := HM.out.free 0 rfl 2; rw [List.nil_append, List.length_append] at HM; clear h7 k7 g7; simp only [Act.put, List.setIfInBounds_toArray, List.set_cons_zero, List.set_cons_succ])       | ((with_reducible refine at_load 28 ?_); have HM : Hid _ := HM.out.setc 0 rfl 2 (.slice d2 (L.length + 1) e2); refine wl_loadG (by rfl) rfl rfl y.hid (own_rng (i := 0) (HM.out.get 2 rfl) Hy.out) ?_; simp only [Act.put, List.setIfInBounds_toArray, List.set_cons_zero, List.set_cons_succ])       | (refine St.wl_alloc tyI rfl rfl (by (try simp only [World.size_alloc]); rfl) ?_; simp only [Act.put, List.setIfInBounds_toArray, List.set_cons_zero, List.set_cons_succ])       | (refine St.wl_storeN (W := w7.setCell ⟨b, 2, none⟩ (.slice d2 (L.length + 1) e2)) tyI rfl rfl rfl rfl rfl (by (try simp only [World.size_alloc]); try rfl) (show _ = Value.agg (y.id.map bv).toArray from rfl) Hyl.out rfl (one_bv _) ?_; have HM : Hid _ := HM.out.alloc (.cells (y.id.map bv).toArray 28) (b := w7.heap.size) (by simp))       | (go_at_call 60; have HM : Hid _ := pack_x (l := [blk (w.heap.size + 1) (.cells z32 28), blk w7.heap.size (.cells (y.id.map bv).toArray 28)]) (HU.out _ _ _ [blk (w.heap.size + 1) (.cells z32 28), blk w7.heap.size (.cells (y.id.map bv).toArray 28)] (.slice b0 k d0) (.slice (some ⟨g1, 0, none⟩) k d1) (.slice d2 (L.length + 1) e2) (HM.out.sub _ [5, 9, 0, 1, 2, 7, 4, 6] (by decide) rfl)); refine (Hout.out _ _ _ _ (HM.out.get 2 rfl)).mono ?_; rintro e w8 ⟨rfl, lv8, iv8, fv8, t8⟩; have HM : Hid _ := M.xp HM.out 2 rfl t8; have c3 := (show XAt _ b lv8 iv8 fv8 ((L ++ [x]).drop 1) lost from HM.out.get 2 rfl).cells.2.2.2; have f3 := xfree3 (show XAt _ b lv8 iv8 fv8 ((L ++ [x]).drop 1) lost from HM.out.get 2 rfl); clear t8)       | ((with_reducible refine at_load 28 ?_); have HM : Hid _ := M.xp HM.out 2 rfl (xlost (show XAt _ b lv8 iv8 fv8 ((L ++ [x]).drop 1) lost from HM.out.get 2 rfl) (min (lost + 1) 1000)); refine wl_loadG (by rfl) rfl rfl y.hid (HM.out.range 1 rfl) ?_; simp only [Act.put, List.setIfInBounds_toArray, List.set_cons_zero, List.set_cons_succ])       | (refine St.wl_store tyI rfl rfl rfl rfl rfl (cs := (y.id.map bv).toArray) Hyl.out (one_bv _) (HM.out.get 0 rfl) rfl ?_; have HM : Hid _ := HM.out.setr 0 rfl (y.id.map bv).toArray))
    refine bodyPost_ret (St.res3 tyI rfl _ _ _ ((y.id.map bv).toArray) Hyl.out rfl (HM.out.get 0 rfl) _ _ rfl rfl) rfl ?_
    obtain ⟨x1, x2, x3, x4, x5, x6, x7, x8, x9, x10⟩ := HX2.out
    exact ⟨x, lv8, iv8, fv8, x1, x2, x3, x4, x5, x6, x7, x8, x9, x10, .inr ⟨by have := Hk.out; have := HQ.out; have := Hhk.out; omega, y, Hy.out, rfl, xToI2 HM.out 2 rfl⟩⟩
end
end Px
end Go.Proofs.YtdpkklinpbmkfaaGreatDoor
