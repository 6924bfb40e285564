/-
  The pen: Take.
-/
import Derived.Test.YtpchpdnjgdpdgaaGreatDoorPn7
set_option linter.unusedVariables false
set_option linter.unusedSimpArgs false
namespace Go.Proofs.YtpchpdnjgdpdgaaGreatDoor
open Go.RowKit
namespace Pn
open Oct Ids Gn Hd
open Mem (M It blk ids rows)

/-- Are all parents there? -/
def rdy (kl : List (List UInt8)) (x : Wt) : Bool := x.l.all (fun y => decide (y ∈ IdL.setL kl))
section
variable (w : World) (b : Nat) (v : Value) (L : List Wt) (lost : Int) (h : PenAt w b v L lost) (hl : L.length ≤ 900) (ka : Option Addr) (kn kc : Nat) (kl : List (List UInt8)) (hk : At w ka kn kl) (hkm : kn ≤ 100000)
include h hl hk hkm
set_option maxRecDepth 100000 in
set_option maxHeartbeats 2000000 in
theorem ptake_none (hno : L.any (rdy kl) = false) :
    Calls Tryz.prog 35 #[.pointer (some ⟨b, 0, none⟩), .slice ka kn kc] w fun e w' => e = .returned (.tuple #[.agg hz0, .int .i64 0, .bool false]) ∧ Keep (fun _ => False) w w' := by
  have HP : Hid (PenAt w b v L lost) := h
  have HK : Hid (At w ka kn kl) := hk
  have Hkm : Hid (kn ≤ 100000) := hkm
  have Hlk : Hid (kl.length = kn) := hk.len
  have HM : Hid (M (foot b v L) w (w.alloc (.cells hz0 30)) [blk w.heap.size (.cells hz0 30), penI b v L lost]) := pack_pen (l := [blk w.heap.size (.cells hz0 30)]) ((h.all.alloc (.cells hz0 30) rfl).sub _ [3, 0, 1, 2] (by decide) rfl)
  have KW : Hid (Keep (fun _ => False) w (w.alloc (.cells hz0 30))) := (Keep.refl _ _).alloc _
  have c0 := (show PenAt _ b v L lost from HM.out.get 1 rfl).cells.1
  obtain ⟨ra, rc, er, hrow⟩ := h.row
  subst er
  have HR : Hid (St.At 71 we w ra L.length L) := hrow
  clear hrow
  have hix : St.idx (rdy kl) L = -1 := St.idx_none (fun j y _ hy => by
    cases hq : rdy kl y with
    | false => rfl
    | true => rw [List.any_eq_false] at hno; exact absurd hq (hno y (List.mem_of_getElem? hy)))
  have HIX : Hid _ := hix
  clear h hk hno hix
  go_enter Tryz.func35, Tryz.ntmps35
  go_wp2_with (first | (go_at_call 36; refine (none_ok (HM.out.get 1 rfl)).mono ?_; rintro e w1 ⟨rfl, rfl⟩) | (refine St.wl_alloc tyH rfl rfl (by (try simp only [World.size_alloc]); rfl) ?_; simp only [Act.put, List.setIfInBounds_toArray, List.set_cons_zero, List.set_cons_succ]) | (go_at_call 46; refine (set_any _ ka kn kc kl (HK.out.calm KW.out) (by omega)).mono ?_; rintro e w2 ⟨v2, rfl, n2⟩; obtain ⟨sa, sc, e2, sat, _⟩ := n2.1.at; subst e2; have HM : Hid _ := HM.out.calm n2.2.1; have KW : Hid _ := KW.out.trans n2.2.1; have HS : Hid _ := sat; have c0 := (show PenAt _ b _ L lost from HM.out.get 1 rfl).cells.1; clear n2 sat) | (go_at_call 70; refine (W_index _ ra L.length rc L (HR.out.calm KW.out) (by omega) _ _ _ (rdy kl) iall_eg (iallT _ sa _ sc (IdL.setL kl) HS.out (by have := IdL.setL_len kl; have := Hlk.out; omega) (IdL.setL_srt kl) L (show PenAt _ b _ L lost from HM.out.get 1 rfl).par)).mono ?_; rw [HIX.out]; rintro e w3 ⟨rfl, k3⟩; have HM : Hid _ := HM.out.calm k3; have KW : Hid _ := KW.out.trans k3; clear k3) | (refine St.wl_buildV (T := 30) (parts := #[]) rfl rfl (cs := hz0) (by kernel_rfl) ?_; simp only [Act.put, List.setIfInBounds_toArray, List.set_cons_zero, List.set_cons_succ]) | (refine St.wl_store tyH rfl rfl rfl rfl rfl (cs := hz0) rfl (hd_one _ _ _ _ _ _ _ _ _) (HM.out.get 0 rfl) rfl ?_; have HM : Hid _ := HM.out.setr 0 rfl hz0))
  refine bodyPost_ret (St.res3 tyH rfl _ _ _ hz0 rfl rfl (HM.out.get 0 rfl) _ _ rfl rfl) rfl ?_
  exact ⟨rfl, keep_new KW.out (Nat.le_refl _) _⟩
set_option maxRecDepth 100000 in
set_option maxHeartbeats 4000000 in
theorem ptake_some (i : Nat) (x : Wt) (hx : L[i]? = some x) (hp : rdy kl x = true) (hb : ∀ (j : Nat) (y : Wt), j < i → L[j]? = some y → rdy kl y = false) :
    Calls Tryz.prog 35 #[.pointer (some ⟨b, 0, none⟩), .slice ka kn kc] w fun e w' => e = .returned (.tuple #[.agg (hv x).toArray, .int .i64 x.fr, .bool true]) ∧ ∃ v', PenTo w w' b v L v' (L.take i ++ L.drop (i + 1)) lost ∧ At w' x.a x.n x.l := by
  have HP : Hid (PenAt w b v L lost) := h
  have HK : Hid (At w ka kn kl) := hk
  have Hkm : Hid (kn ≤ 100000) := hkm
  have Hlk : Hid (kl.length = kn) := hk.len
  have HM : Hid (M (foot b v L) w (w.alloc (.cells hz0 30)) [blk w.heap.size (.cells hz0 30), penI b v L lost]) := pack_pen (l := [blk w.heap.size (.cells hz0 30)]) ((h.all.alloc (.cells hz0 30) rfl).sub _ [3, 0, 1, 2] (by decide) rfl)
  have KW : Hid (Keep (fun _ => False) w (w.alloc (.cells hz0 30))) := (Keep.refl _ _).alloc _
  have c0 := (show PenAt _ b v L lost from HM.out.get 1 rfl).cells.1
  obtain ⟨ra, rc, er, hrow⟩ := h.row
  subst er
  have HR : Hid (St.At 71 we w ra L.length L) := hrow
  clear hrow
  have HIX : Hid (St.idx (rdy kl) L = i) := St.idx_some hx hp hb
  have Hx : Hid _ := hx
  have hil : i < L.length := (List.getElem?_eq_some_iff.1 hx).1
  have Hcut : Hid (∀ w, PenAt w b (.slice ra L.length rc) L lost → Calls Tryz.prog 40 #[.pointer (some ⟨b, 0, none⟩), .int .i64 i] w fun e w' => e = .returned (.agg (we x).toArray) ∧ ∃ v', PenTo w w' b (.slice ra L.length rc) L v' (L.take i ++ L.drop (i + 1)) lost ∧ ∀ y ∈ L, At w' y.a y.n y.l) := fun w h => pcut2 w b _ L lost h (by omega) i x hx
  have Hxa : Hid (∀ k off, x.a = some ⟨k, off, none⟩ → k < w.heap.size) := fun k off e => (h.all.rng 2 _ rfl k ⟨x, List.mem_of_getElem? hx, off, e⟩).2
  clear h hk hx hp hb
  go_enter Tryz.func35, Tryz.ntmps35
  go_wp2_with (first | (go_at_call 36; refine (none_ok (HM.out.get 1 rfl)).mono ?_; rintro e w1 ⟨rfl, rfl⟩) | (refine St.wl_alloc tyH rfl rfl (by (try simp only [World.size_alloc]); rfl) ?_; simp only [Act.put, List.setIfInBounds_toArray, List.set_cons_zero, List.set_cons_succ]) | (go_at_call 46; refine (set_any _ ka kn kc kl (HK.out.calm KW.out) (by omega)).mono ?_; rintro e w2 ⟨v2, rfl, n2⟩; obtain ⟨sa, sc, e2, sat, _⟩ := n2.1.at; subst e2; have HM : Hid _ := HM.out.calm n2.2.1; have KW : Hid _ := KW.out.trans n2.2.1; have HS : Hid _ := sat; have c0 := (show PenAt _ b _ L lost from HM.out.get 1 rfl).cells.1; clear n2 sat) | (go_at_call 70; refine (W_index _ ra L.length rc L (HR.out.calm KW.out) (by omega) _ _ _ (rdy kl) iall_eg (iallT _ sa _ sc (IdL.setL kl) HS.out (by have := IdL.setL_len kl; have := Hlk.out; omega) (IdL.setL_srt kl) L (show PenAt _ b _ L lost from HM.out.get 1 rfl).par)).mono ?_; rw [HIX.out]; rintro e w3 ⟨rfl, k3⟩; have HM : Hid _ := HM.out.calm k3; have KW : Hid _ := KW.out.trans k3; clear k3) | (go_at_call 40; refine (Hcut.out _ (HM.out.get 1 rfl)).mono ?_; rintro e w5 ⟨rfl, v5, t5, p5⟩; have HM : Hid _ := M.pen HM.out 1 rfl t5; have HPx : Hid (At w5 x.a x.n x.l) := p5 x (List.mem_of_getElem? Hx.out); clear t5 p5) | (refine St.wl_alloc tyW rfl rfl (by (try simp only [World.size_alloc]); rfl) ?_; simp only [Act.put, List.setIfInBounds_toArray, List.set_cons_zero, List.set_cons_succ]) | (refine St.wl_storeN (W := w5) tyW rfl rfl rfl rfl rfl (by (try simp only [World.size_alloc])) (show _ = Value.agg (we x).toArray from rfl) (by rw [List.size_toArray]; exact W_enc.len x) rfl (W_enc.all x) ?_; have HM : Hid _ := HM.out.alloc (.cells (we x).toArray 71) rfl; have HPx : Hid _ := HPx.out.calm ((Keep.refl _ _).alloc (.cells (we x).toArray 71))))
  obtain ⟨wb, hwb⟩ : ∃ b, w5.heap.size = b := ⟨_, rfl⟩
  rw [hwb] at HM ⊢
  clear hwb
  have HM : Hid _ := HM.out.drew
  have HPx : Hid _ := HPx.out.calm (Keep.refl _ _).drew
  refine Txt.wp_region_text (fun w' => w'.cell? ⟨wb, 70, none⟩ = some (.int .i64 x.fr)) [0, 1, 0, 2, 4, 0, 0] (by kernel_rfl) (by kernel_rfl) (wt_fr (HM.out.get 2 rfl)) ?_
  (repeat (first | (refine Txt.tl_pure (v := ?_) (by rfl) ?_ ?_; rotate_left; (focus (intro _; go_simp; try with_reducible rfl)); simp only [Act.put, List.setIfInBounds_toArray, List.set_cons_zero, List.set_cons_succ]) | (refine Txt.tl_load (v := ?_) (by rfl) (by rfl) (by rfl) (by kernel_rfl) ?_ ?_; rotate_left; (focus assumption); simp only [Act.put, List.setIfInBounds_toArray, List.set_cons_zero, List.set_cons_succ]) | (refine Txt.tl_loadS (v := ?_) (by rfl) (by rfl) (by rfl) (by kernel_rfl) ?_ ?_; rotate_left; (focus (exact fun _ h => h)); simp only [Act.put, List.setIfInBounds_toArray, List.set_cons_zero, List.set_cons_succ])))
  refine Txt.tl_rowN (n := 38) (ty := 30) (by rfl) (by rfl) (by rfl) (wt_hd (HM.out.get 2 rfl)) (by kernel_rfl) (hv_len x) ?_
  simp only [Act.put, List.setIfInBounds_toArray, List.set_cons_zero, List.set_cons_succ]
  (repeat (first | (refine Txt.tl_pure (v := ?_) (by rfl) ?_ ?_; rotate_left; (focus (intro _; go_simp; try with_reducible rfl)); simp only [Act.put, List.setIfInBounds_toArray, List.set_cons_zero, List.set_cons_succ]) | (refine Txt.tl_load (v := ?_) (by rfl) (by rfl) (by rfl) (by kernel_rfl) ?_ ?_; rotate_left; (focus assumption); simp only [Act.put, List.setIfInBounds_toArray, List.set_cons_zero, List.set_cons_succ]) | (refine Txt.tl_loadS (v := ?_) (by rfl) (by rfl) (by rfl) (by kernel_rfl) ?_ ?_; rotate_left; (focus (exact fun _ h => h)); simp only [Act.put, List.setIfInBounds_toArray, List.set_cons_zero, List.set_cons_succ])))
  refine Txt.tl_loadS (v := .int .i64 x.fr) (ty := 3) (by rfl) (by rfl) (by rfl) (by kernel_rfl) (fun _ h => h) ?_
  simp only [Act.put, List.setIfInBounds_toArray, List.set_cons_zero, List.set_cons_succ]
  refine Txt.tl_loud (by rfl) ?_
  refine St.wp_store tyH rfl rfl rfl rfl (cs := (hv x).toArray) (by rw [List.size_toArray]; exact hv_len x) (hd_one _ _ _ _ _ _ _ _ _) (HM.out.get 0 rfl) rfl ?_
  have HPx : Hid _ := HPx.out.keep (S := fun k => k = w.heap.size) ((Keep.refl _ _).setRow w.heap.size (hv x).toArray (fun _ => rfl)) (fun k off e e2 => by have := Hxa.out k off e; omega)
  have HM : Hid _ := HM.out.setr 0 rfl (hv x).toArray
  refine ⟨wt_fr (HM.out.get 2 rfl), ?_⟩
  (repeat (first | (refine Txt.tl_pure (v := ?_) (by rfl) ?_ ?_; rotate_left; (focus (intro _; go_simp; try with_reducible rfl)); simp only [Act.put, List.setIfInBounds_toArray, List.set_cons_zero, List.set_cons_succ]) | (refine Txt.tl_load (v := ?_) (by rfl) (by rfl) (by rfl) (by kernel_rfl) ?_ ?_; rotate_left; (focus assumption); simp only [Act.put, List.setIfInBounds_toArray, List.set_cons_zero, List.set_cons_succ]) | (refine Txt.tl_loadS (v := ?_) (by rfl) (by rfl) (by rfl) (by kernel_rfl) ?_ ?_; rotate_left; (focus (exact fun _ h => h)); simp only [Act.put, List.setIfInBounds_toArray, List.set_cons_zero, List.set_cons_succ])))
  refine Txt.tl_nil ?_
  go_wp2
  refine bodyPost_ret (St.res3 tyH rfl _ _ _ ((hv x).toArray) (by rw [List.size_toArray]; exact hv_len x) rfl (HM.out.get 0 rfl) _ _ rfl rfl) rfl ?_
  exact ⟨rfl, _, penToI HM.out 1 rfl, HPx.out⟩
end
end Pn
end Go.Proofs.YtpchpdnjgdpdgaaGreatDoor
