/-
  The pen, with all parents that ever were there held beside it: cut, Take.
-/
import Derived.Test.YtpchpdnjgdpdgaaGreatDoorPn8
set_option linter.unusedVariables false
set_option linter.unusedSimpArgs false
namespace Go.Proofs.YtpchpdnjgdpdgaaGreatDoor
open Go.RowKit
namespace Dr
open Oct Ids Gn Hd Pn
open Mem (M It blk ids rows)
theorem swap_row {F : Nat → Prop} {w0 w w1 : World} {b : Nat} {v v' : Value} {L L' : List Wt} {lost : Int} {y : It} {it : List It} (h : M F w0 w ([blk b (pc v lost), rows 71 71 we v L, y] ++ it)) (hn : St.New 71 71 we w w1 v' L') :
    M F w0 w1 ([blk b (pc v lost), rows 71 71 we v' L', y] ++ it) :=
  h.upd 1 rfl (S := fun _ => False) hn.2.1 (fun _ h => h.elim) (y := rows 71 71 we v' L') hn.1 (fun k hk => .inr ⟨hn.2.2 k hk, hn.1.lt hk⟩)
set_option maxRecDepth 100000 in
set_option maxHeartbeats 4000000 in
theorem pcutY {F : Nat → Prop} {w0 : World} {y : It} (w : World) (b : Nat) (v : Value) (L : List Wt) (lost : Int) (h : M F w0 w [blk b (pc v lost), rows 71 71 we v L, y]) (hl : L.length ≤ 1000) (i : Nat) (x : Wt) (hx : L[i]? = some x) :
    Calls Tryz.prog 40 #[.pointer (some ⟨b, 0, none⟩), .int .i64 i] w fun e w' => e = .returned (.agg (we x).toArray) ∧ ∃ v', M F w0 w' [blk b (pc v' lost), rows 71 71 we v' (L.take i ++ L.drop (i + 1)), y] := by
  have hil : i < L.length := (List.getElem?_eq_some_iff.1 hx).1
  have HM : Hid _ := h.alloc (.cells wz 71) rfl
  have c0 := HM.out.cell 0 rfl 0 rfl
  have h1 : St.Own 71 71 we w v L := h.get 1 rfl
  obtain ⟨hol, hnil | ⟨g, cap, cur, rfl, _, hg, hlc, hcm, hcs, htk⟩⟩ := h1.own
  · exfalso; have := hnil.2; omega
  obtain ⟨a, c, e, hat⟩ := h1.any
  cases e
  obtain ⟨n, hn⟩ : ∃ n, L.length = n := ⟨_, rfl⟩
  rw [hn] at hat hl hil hlc HM c0
  have HA : Hid (St.At 71 we w (some ⟨g, 0, none⟩) n L) := hat
  have HN : Hid (L.length = n) := hn
  obtain ⟨b1, o1, e1, hb1, hr1⟩ : ∃ b off, (some (⟨g, 0, none⟩ : Addr)) = some ⟨b, off, none⟩ ∧ b < w.heap.size ∧ ∀ i x, L[i]? = some x → w.rangeAt b (off + i * 71) (we x) := by rcases hat.lay with e | e; omega; exact e
  cases e1
  have HRx : Hid (w.rangeAt g (i * 71) (we x)) := by have := hr1 i x hx; rwa [Nat.zero_add] at this
  have HGs : Hid (g < w.heap.size) := hb1
  have Hx : Hid _ := hx
  obtain ⟨p, hp⟩ : ∃ p, i + 1 = p := ⟨_, rfl⟩
  have HP : Hid (i + 1 = p) := hp
  unfold maxLen at hcm
  have hpw : IntKind.i64.wrap ((i : Int) + 1) = (p : Int) := by rw [IntWalk.i64_in _ (by omega)]; omega
  have hpn : (p : Int) ≤ (n : Int) := by omega
  have hpc : (p : Int) ≤ (cap : Int) := by omega
  have hnc : (n : Int) ≤ (cap : Int) := by omega
  have hin : (i : Int) < (n : Int) := by omega
  have hic : (i : Int) ≤ (cap : Int) := by omega
  have HD : Hid (L.drop (i + 1) = L.drop p) := by show _ = _; rw [hp]
  have A1 : Hid (St.At 71 we w (some ⟨g, 0, none⟩) i (L.take i)) := hat.cut i (by omega)
  clear h1 hol hcs htk hg hb1 hcm hr1 hx h
  by_cases hcp : cap = p
  · obtain rfl : n = p := by omega
    subst hcp
    have A2 : Hid (St.At 71 we w (some ⟨g, 0, none⟩) 0 (L.drop cap)) := by
      rw [List.drop_eq_nil_of_le (by rw [hn]; exact Nat.le_refl _)]
      exact hat.empty
    clear hat hn hp
    go_enter Tryz.func40, Tryz.ntmps40
    go_wp2_with (first | ((with_reducible refine at_load 71 ?_); refine St.wl_load tyW (by rfl) rfl rfl (((Keep.refl (fun _ => False) w).alloc (.cells wz 71)).range HGs.out (fun h => h) HRx.out) (W_enc.len x) ?_; simp only [Act.put, List.setIfInBounds_toArray, List.set_cons_zero, List.set_cons_succ]) | (refine St.wl_alloc tyW rfl rfl (by (try simp only [World.size_alloc]); rfl) ?_; simp only [Act.put, List.setIfInBounds_toArray, List.set_cons_zero, List.set_cons_succ]) | (refine St.wl_storeN (W := w.alloc (.cells wz 71)) tyW rfl rfl rfl rfl rfl (by (try simp only [World.size_alloc])) (show _ = Value.agg (we x).toArray from rfl) (by rw [List.size_toArray]; exact W_enc.len x) rfl (W_enc.all x) ?_; have HM : Hid _ := HM.out.alloc (.cells (we x).toArray 71) (b := w.heap.size + 1) (by simp)))
    clear c0
    have c0 := HM.out.drew.cell 0 rfl 0 (v := .slice (some ⟨g, 0, none⟩) cap cap) rfl
    refine Txt.wp_region_text1 (fun w' => w'.cell? ⟨b, 0, none⟩ = some (.slice (some ⟨g, 0, none⟩) cap cap)) [0, 0, 0, 0, 1, 0, 0, 0, 0, 0, 1, 0, 0, 0, 3, 4, 0, 0, 4] (by kernel_rfl) (by kernel_rfl) c0 ?_
    simp only [List.dropLast]
    (repeat (first | (refine Txt.tl_pure (v := ?_) (by rfl) ?_ ?_; rotate_left; (focus (intro _; go_simp; try with_reducible rfl)); simp only [Act.put, List.setIfInBounds_toArray, List.set_cons_zero, List.set_cons_succ]) | (refine Txt.tl_load (v := ?_) (by rfl) (by rfl) (by rfl) (by kernel_rfl) ?_ ?_; rotate_left; (focus assumption); simp only [Act.put, List.setIfInBounds_toArray, List.set_cons_zero, List.set_cons_succ]) | (refine Txt.tl_loadS (v := ?_) (by rfl) (by rfl) (by rfl) (by kernel_rfl) ?_ ?_; rotate_left; (focus (exact fun _ h => h)); simp only [Act.put, List.setIfInBounds_toArray, List.set_cons_zero, List.set_cons_succ])))
    refine Txt.tl_alloc (by rfl) ?_
    go_simp
    have HM : Hid _ := (HM.out.alloc (.cells #[.slice (some ⟨g, 0, none⟩) i cap, .slice (some ⟨g, 0, none⟩) (0) (0)] 66) (b := w.heap.size + 1 + 1) (by simp)).drew
    refine ⟨⟨by first | exact Txt.Le.alloc_drew _ _ | exact Txt.Le.alloc _ _, HM.out.cell 0 rfl 0 rfl⟩, ?_⟩
    (repeat (first | (refine Txt.tl_pure (v := ?_) (by rfl) ?_ ?_; rotate_left; (focus (intro _; go_simp; try with_reducible rfl)); simp only [Act.put, List.setIfInBounds_toArray, List.set_cons_zero, List.set_cons_succ]) | (refine Txt.tl_load (v := ?_) (by rfl) (by rfl) (by rfl) (by kernel_rfl) ?_ ?_; rotate_left; (focus assumption); simp only [Act.put, List.setIfInBounds_toArray, List.set_cons_zero, List.set_cons_succ]) | (refine Txt.tl_loadS (v := ?_) (by rfl) (by rfl) (by rfl) (by kernel_rfl) ?_ ?_; rotate_left; (focus (exact fun _ h => h)); simp only [Act.put, List.setIfInBounds_toArray, List.set_cons_zero, List.set_cons_succ])))
    have KK : Hid (Keep (fun _ => False) w _) := ((((Keep.refl (fun _ => False) w).alloc (.cells wz 71)).alloc (.cells (we x).toArray 71)).alloc (.cells #[.slice (some ⟨g, 0, none⟩) i cap, .slice (some ⟨g, 0, none⟩) (0) (0)] 66)).drew
    refine Txt.tl_call Tryz.func75 (by kernel_rfl) (by kernel_rfl) (by rfl) (by rfl) (by rfl) (W_concat _ (w.heap.size + 1 + 1) i cap (0) (0) (some ⟨g, 0, none⟩) (some ⟨g, 0, none⟩) (L.take i) (L.drop cap) (HM.out.get 5 rfl) (A1.out.calm KK.out) (A2.out.calm KK.out) (by omega)) ?_
    rintro e w6 ⟨v6, rfl, n6⟩
    obtain ⟨a6, c6, e6, _⟩ := n6.1.any
    subst e6
    have HM : Hid _ := swap_row (L' := L.take i ++ L.drop cap) HM.out n6
    clear n6
    refine ⟨_, rfl, HM.out.cell 0 rfl 0 rfl, ?_⟩
    simp only [Act.put, List.setIfInBounds_toArray, List.set_cons_zero, List.set_cons_succ]
    (repeat (first | (refine Txt.tl_pure (v := ?_) (by rfl) ?_ ?_; rotate_left; (focus (intro _; go_simp; try with_reducible rfl)); simp only [Act.put, List.setIfInBounds_toArray, List.set_cons_zero, List.set_cons_succ]) | (refine Txt.tl_load (v := ?_) (by rfl) (by rfl) (by rfl) (by kernel_rfl) ?_ ?_; rotate_left; (focus assumption); simp only [Act.put, List.setIfInBounds_toArray, List.set_cons_zero, List.set_cons_succ]) | (refine Txt.tl_loadS (v := ?_) (by rfl) (by rfl) (by rfl) (by kernel_rfl) ?_ ?_; rotate_left; (focus (exact fun _ h => h)); simp only [Act.put, List.setIfInBounds_toArray, List.set_cons_zero, List.set_cons_succ])))
    refine Txt.tl_nil ?_
    refine Txt.tl_last (by rfl) (by rfl) ?_
    have f0 := HM.out.free 0 rfl 0
    have c0 := HM.out.cell 0 rfl 0 (v := .slice (some ⟨g, 0, none⟩) cap cap) rfl
    go_simp
    obtain ⟨v7, hv7⟩ : ∃ v, Value.slice a6 (L.take i ++ L.drop cap).length c6 = v := ⟨_, rfl⟩
    have HM : Hid _ := setv HM.out 0 rfl (.slice a6 (L.take i ++ L.drop cap).length c6)
    try simp only [List.length_append, List.length_take, List.length_drop] at HM ⊢
    clear f0 c0
    go_wp2_with (first | ((with_reducible refine at_load 71 ?_); refine St.wl_load tyW (by rfl) rfl rfl (HM.out.range 4 rfl) (W_enc.len x) ?_; simp only [Act.put, List.setIfInBounds_toArray, List.set_cons_zero, List.set_cons_succ]) | (refine St.wl_store tyW rfl rfl rfl rfl rfl (cs := (we x).toArray) (by rw [List.size_toArray]; exact W_enc.len x) (W_enc.all x) (HM.out.get 3 rfl) rfl ?_; have HM : Hid _ := HM.out.setr 3 rfl (we x).toArray))
    refine bodyPost_ret (St.res1 tyW rfl _ _ _ ((we x).toArray) (by rw [List.size_toArray]; exact W_enc.len x) rfl (HM.out.get 3 rfl)) rfl ?_
    rw [HN.out] at HM ⊢
    rw [HD.out]
    exact ⟨rfl, _, HM.out.take 3⟩
  · have A2 : Hid (St.At 71 we w (some ⟨g, p * 71, none⟩) (n - p) (L.drop p)) := by
      have := hat.tail p (by omega)
      rwa [Nat.zero_add] at this
    clear hat hn hp
    go_enter Tryz.func40, Tryz.ntmps40
    go_wp2_with (first | ((with_reducible refine at_load 71 ?_); refine St.wl_load tyW (by rfl) rfl rfl (((Keep.refl (fun _ => False) w).alloc (.cells wz 71)).range HGs.out (fun h => h) HRx.out) (W_enc.len x) ?_; simp only [Act.put, List.setIfInBounds_toArray, List.set_cons_zero, List.set_cons_succ]) | (refine St.wl_alloc tyW rfl rfl (by (try simp only [World.size_alloc]); rfl) ?_; simp only [Act.put, List.setIfInBounds_toArray, List.set_cons_zero, List.set_cons_succ]) | (refine St.wl_storeN (W := w.alloc (.cells wz 71)) tyW rfl rfl rfl rfl rfl (by (try simp only [World.size_alloc])) (show _ = Value.agg (we x).toArray from rfl) (by rw [List.size_toArray]; exact W_enc.len x) rfl (W_enc.all x) ?_; have HM : Hid _ := HM.out.alloc (.cells (we x).toArray 71) (b := w.heap.size + 1) (by simp)))
    clear c0
    have c0 := HM.out.drew.cell 0 rfl 0 (v := .slice (some ⟨g, 0, none⟩) n cap) rfl
    refine Txt.wp_region_text1 (fun w' => w'.cell? ⟨b, 0, none⟩ = some (.slice (some ⟨g, 0, none⟩) n cap)) [0, 0, 0, 0, 1, 0, 0, 0, 0, 0, 1, 0, 0, 0, 3, 4, 0, 0, 4] (by kernel_rfl) (by kernel_rfl) c0 ?_
    simp only [List.dropLast]
    (repeat (first | (refine Txt.tl_pure (v := ?_) (by rfl) ?_ ?_; rotate_left; (focus (intro _; go_simp; try with_reducible rfl)); simp only [Act.put, List.setIfInBounds_toArray, List.set_cons_zero, List.set_cons_succ]) | (refine Txt.tl_load (v := ?_) (by rfl) (by rfl) (by rfl) (by kernel_rfl) ?_ ?_; rotate_left; (focus assumption); simp only [Act.put, List.setIfInBounds_toArray, List.set_cons_zero, List.set_cons_succ]) | (refine Txt.tl_loadS (v := ?_) (by rfl) (by rfl) (by rfl) (by kernel_rfl) ?_ ?_; rotate_left; (focus (exact fun _ h => h)); simp only [Act.put, List.setIfInBounds_toArray, List.set_cons_zero, List.set_cons_succ])))
    refine Txt.tl_alloc (by rfl) ?_
    go_simp
    have HM : Hid _ := (HM.out.alloc (.cells #[.slice (some ⟨g, 0, none⟩) i cap, .slice (some ⟨g, p * 71, none⟩) (n - p) (cap - p)] 66) (b := w.heap.size + 1 + 1) (by simp)).drew
    refine ⟨⟨by first | exact Txt.Le.alloc_drew _ _ | exact Txt.Le.alloc _ _, HM.out.cell 0 rfl 0 rfl⟩, ?_⟩
    (repeat (first | (refine Txt.tl_pure (v := ?_) (by rfl) ?_ ?_; rotate_left; (focus (intro _; go_simp; try with_reducible rfl)); simp only [Act.put, List.setIfInBounds_toArray, List.set_cons_zero, List.set_cons_succ]) | (refine Txt.tl_load (v := ?_) (by rfl) (by rfl) (by rfl) (by kernel_rfl) ?_ ?_; rotate_left; (focus assumption); simp only [Act.put, List.setIfInBounds_toArray, List.set_cons_zero, List.set_cons_succ]) | (refine Txt.tl_loadS (v := ?_) (by rfl) (by rfl) (by rfl) (by kernel_rfl) ?_ ?_; rotate_left; (focus (exact fun _ h => h)); simp only [Act.put, List.setIfInBounds_toArray, List.set_cons_zero, List.set_cons_succ])))
    have KK : Hid (Keep (fun _ => False) w _) := ((((Keep.refl (fun _ => False) w).alloc (.cells wz 71)).alloc (.cells (we x).toArray 71)).alloc (.cells #[.slice (some ⟨g, 0, none⟩) i cap, .slice (some ⟨g, p * 71, none⟩) (n - p) (cap - p)] 66)).drew
    refine Txt.tl_call Tryz.func75 (by kernel_rfl) (by kernel_rfl) (by rfl) (by rfl) (by rfl) (W_concat _ (w.heap.size + 1 + 1) i cap (n - p) (cap - p) (some ⟨g, 0, none⟩) (some ⟨g, p * 71, none⟩) (L.take i) (L.drop p) (HM.out.get 5 rfl) (A1.out.calm KK.out) (A2.out.calm KK.out) (by omega)) ?_
    rintro e w6 ⟨v6, rfl, n6⟩
    obtain ⟨a6, c6, e6, _⟩ := n6.1.any
    subst e6
    have HM : Hid _ := swap_row (L' := L.take i ++ L.drop p) HM.out n6
    clear n6
    refine ⟨_, rfl, HM.out.cell 0 rfl 0 rfl, ?_⟩
    simp only [Act.put, List.setIfInBounds_toArray, List.set_cons_zero, List.set_cons_succ]
    (repeat (first | (refine Txt.tl_pure (v := ?_) (by rfl) ?_ ?_; rotate_left; (focus (intro _; go_simp; try with_reducible rfl)); simp only [Act.put, List.setIfInBounds_toArray, List.set_cons_zero, List.set_cons_succ]) | (refine Txt.tl_load (v := ?_) (by rfl) (by rfl) (by rfl) (by kernel_rfl) ?_ ?_; rotate_left; (focus assumption); simp only [Act.put, List.setIfInBounds_toArray, List.set_cons_zero, List.set_cons_succ]) | (refine Txt.tl_loadS (v := ?_) (by rfl) (by rfl) (by rfl) (by kernel_rfl) ?_ ?_; rotate_left; (focus (exact fun _ h => h)); simp only [Act.put, List.setIfInBounds_toArray, List.set_cons_zero, List.set_cons_succ])))
    refine Txt.tl_nil ?_
    refine Txt.tl_last (by rfl) (by rfl) ?_
    have f0 := HM.out.free 0 rfl 0
    have c0 := HM.out.cell 0 rfl 0 (v := .slice (some ⟨g, 0, none⟩) n cap) rfl
    go_simp
    obtain ⟨v7, hv7⟩ : ∃ v, Value.slice a6 (L.take i ++ L.drop p).length c6 = v := ⟨_, rfl⟩
    have HM : Hid _ := setv HM.out 0 rfl (.slice a6 (L.take i ++ L.drop p).length c6)
    try simp only [List.length_append, List.length_take, List.length_drop] at HM ⊢
    clear f0 c0
    go_wp2_with (first | ((with_reducible refine at_load 71 ?_); refine St.wl_load tyW (by rfl) rfl rfl (HM.out.range 4 rfl) (W_enc.len x) ?_; simp only [Act.put, List.setIfInBounds_toArray, List.set_cons_zero, List.set_cons_succ]) | (refine St.wl_store tyW rfl rfl rfl rfl rfl (cs := (we x).toArray) (by rw [List.size_toArray]; exact W_enc.len x) (W_enc.all x) (HM.out.get 3 rfl) rfl ?_; have HM : Hid _ := HM.out.setr 3 rfl (we x).toArray))
    refine bodyPost_ret (St.res1 tyW rfl _ _ _ ((we x).toArray) (by rw [List.size_toArray]; exact W_enc.len x) rfl (HM.out.get 3 rfl)) rfl ?_
    rw [HN.out] at HM ⊢
    rw [HD.out]
    exact ⟨rfl, _, HM.out.take 3⟩
/-- A pen, with the parents of P beside it. -/
structure PenP (w : World) (b : Nat) (v : Value) (L P : List Wt) (lost : Int) : Prop where
  all : M (foot b v P) w w [blk b (pc v lost), rows 71 71 we v L, pars P]
theorem mkP {F : Nat → Prop} {w0 w : World} {b : Nat} {v : Value} {L P : List Wt} {lost : Int} (h : M F w0 w [blk b (pc v lost), rows 71 71 we v L, pars P]) : PenP w b v L P lost := by
  refine ⟨⟨h.all, h.dis, fun i x hi k hk => ⟨.inr ?_, (h.rng i x hi k hk).2⟩, Keep.refl _ _⟩⟩
  match i, hi with
  | 0, hi => cases hi; exact .inl (.inl hk)
  | 1, hi => cases hi; exact .inl (.inr hk)
  | 2, hi => cases hi; exact .inr hk
theorem PenP.at {w : World} {b : Nat} {v : Value} {L P : List Wt} {lost : Int} (h : PenP w b v L P lost) (hs : ∀ x ∈ L, x ∈ P) : PenAt w b v L lost :=
  mk3 (h.all.turn 2 rfl (pars L) ((pars_sub hs).2 _ (h.all.get 2 rfl)) (pars_sub hs).1)
theorem PenP.par {w : World} {b : Nat} {v : Value} {L P : List Wt} {lost : Int} (h : PenP w b v L P lost) : ∀ x ∈ P, At w x.a x.n x.l := h.all.get 2 rfl
theorem PenP.of {w : World} {b : Nat} {v : Value} {L : List Wt} {lost : Int} (h : PenAt w b v L lost) : PenP w b v L L lost := mkP h.all
def penP (b : Nat) (v : Value) (L P : List Wt) (lost : Int) : It := ⟨foot b v P, fun w => PenP w b v L P lost, fun w w' S h k n => by
  have hm := h.all
  refine ⟨⟨fun i x hi => ?_, hm.dis, fun i x hi j hj => ⟨.inr ?_, Nat.lt_of_lt_of_le (hm.rng i x hi j hj).2 k.size⟩, Keep.refl _ _⟩⟩
  · refine x.stable w w' S (hm.all i x hi) k (fun j hj => n j ?_)
    match i, hi with
    | 0, hi => cases hi; exact .inl (.inl hj)
    | 1, hi => cases hi; exact .inl (.inr hj)
    | 2, hi => cases hi; exact .inr hj
  · match i, hi with
    | 0, hi => cases hi; exact .inl (.inl hj)
    | 1, hi => cases hi; exact .inl (.inr hj)
    | 2, hi => cases hi; exact .inr hj⟩
/-- What a call makes of it. -/
structure PTo (w w' : World) (b : Nat) (v : Value) (P : List Wt) (v' : Value) (L' : List Wt) (lost' : Int) : Prop where
  pen : PenP w' b v' L' P lost'
  keep : Keep (foot b v P) w w'
  foot : ∀ k, foot b v' P k → foot b v P k ∨ (w.heap.size ≤ k ∧ k < w'.heap.size)
theorem PTo.of {w w' : World} {b : Nat} {v : Value} {P : List Wt} {v' : Value} {L' : List Wt} {lost' : Int} (h : M (Pn.foot b v P) w w' [blk b (pc v' lost'), rows 71 71 we v' L', pars P]) : PTo w w' b v P v' L' lost' := by
  refine ⟨mkP h, h.keep, fun k hk => ?_⟩
  have : (w.heap.size ≤ k ∨ Pn.foot b v P k) ∧ k < w'.heap.size := by
    rcases hk with (hk | hk) | hk
    · exact h.rng 0 _ rfl k hk
    · exact h.rng 1 _ rfl k hk
    · exact h.rng 2 _ rfl k hk
  rcases this.1 with h1 | h1
  · exact .inr ⟨h1, this.2⟩
  · exact .inl h1
theorem PTo.ofI {w w' : World} {b : Nat} {v : Value} {P : List Wt} {v' : Value} {L' : List Wt} {lost' : Int} {it : List It} (h : M (Pn.foot b v P) w w' it) (i : Nat) (hi : it[i]? = some (penP b v' L' P lost')) : PTo w w' b v P v' L' lost' := by
  refine ⟨h.get i hi, h.keep, fun k hk => ?_⟩
  obtain ⟨h1, h2⟩ := h.rng i _ hi k hk
  rcases h1 with h1 | h1
  · exact .inr ⟨h1, h2⟩
  · exact .inl h1
theorem M.penp {F : Nat → Prop} {w0 w w' : World} {it : List It} (h : M F w0 w it) (i : Nat) {b : Nat} {v : Value} {L P : List Wt} {lost : Int} (hi : it[i]? = some (penP b v L P lost)) {v' : Value} {L' : List Wt} {lost' : Int} (t : PTo w w' b v P v' L' lost') : M F w0 w' (it.set i (penP b v' L' P lost')) :=
  h.upd i hi t.keep (fun _ h => h) (y := penP b v' L' P lost') t.pen t.foot
section
variable (w : World) (b : Nat) (v : Value) (L P : List Wt) (lost : Int) (h : PenP w b v L P lost) (hs : ∀ x ∈ L, x ∈ P) (hl : L.length ≤ 900) (ka : Option Addr) (kn kc : Nat) (kl : List (List UInt8)) (hk : At w ka kn kl) (hkm : kn ≤ 100000)
include h hs hl hk hkm
set_option maxRecDepth 100000 in
set_option maxHeartbeats 4000000 in
theorem ptakeP (i : Nat) (x : Wt) (hx : L[i]? = some x) (hp : rdy kl x = true) (hb : ∀ (j : Nat) (y : Wt), j < i → L[j]? = some y → rdy kl y = false) :
    Calls Tryz.prog 35 #[.pointer (some ⟨b, 0, none⟩), .slice ka kn kc] w fun e w' => e = .returned (.tuple #[.agg (hv x).toArray, .int .i64 x.fr, .bool true]) ∧ ∃ v', PTo w w' b v P v' (L.take i ++ L.drop (i + 1)) lost := by
  have HSb : Hid (∀ x ∈ L, x ∈ P) := hs
  have HK : Hid (At w ka kn kl) := hk
  have Hkm : Hid (kn ≤ 100000) := hkm
  have Hlk : Hid (kl.length = kn) := hk.len
  have HM : Hid (M (foot b v P) w (w.alloc (.cells hz0 30)) [blk w.heap.size (.cells hz0 30), penP b v L P lost]) :=
    ((h.all.alloc (.cells hz0 30) rfl).sub [blk w.heap.size (.cells hz0 30), blk b (pc v lost), rows 71 71 we v L, pars P] [3, 0, 1, 2] (by decide) rfl).pack (l := [blk w.heap.size (.cells hz0 30)]) (penP b v L P lost) (mkP ((((h.all.alloc (.cells hz0 30) rfl).take 3)))) (fun k hk => by
      rcases hk with (hk | hk) | hk
      · exact ⟨0, _, rfl, hk⟩
      · exact ⟨1, _, rfl, hk⟩
      · exact ⟨2, _, rfl, hk⟩)
  have KW : Hid (Keep (fun _ => False) w (w.alloc (.cells hz0 30))) := (Keep.refl _ _).alloc _
  have c0 := (PenP.at (show PenP _ b v L P lost from HM.out.get 1 rfl) hs).cells.1
  obtain ⟨ra, rc, er, hrow⟩ := (h.at hs).row
  subst er
  have HR : Hid (St.At 71 we w ra L.length L) := hrow
  clear hrow
  have HIX : Hid (St.idx (rdy kl) L = i) := St.idx_some hx hp hb
  have Hx : Hid _ := hx
  have hil : i < L.length := (List.getElem?_eq_some_iff.1 hx).1
  have Hcut : Hid (∀ w, PenP w b (.slice ra L.length rc) L P lost → Calls Tryz.prog 40 #[.pointer (some ⟨b, 0, none⟩), .int .i64 i] w fun e w' => e = .returned (.agg (we x).toArray) ∧ ∃ v', PTo w w' b (.slice ra L.length rc) P v' (L.take i ++ L.drop (i + 1)) lost) := fun w h => (pcutY w b _ L lost h.all (by omega) i x hx).mono fun e w' ⟨h1, v', h2⟩ => ⟨h1, v', PTo.of h2⟩
  clear h hk hx hp hb hs
  go_enter Tryz.func35, Tryz.ntmps35
  go_wp2_with (first | (go_at_call 36; refine (none_ok (PenP.at (show PenP _ b _ L P lost from HM.out.get 1 rfl) HSb.out)).mono ?_; rintro e w1 ⟨rfl, rfl⟩) | (refine St.wl_alloc tyH rfl rfl (by (try simp only [World.size_alloc]); rfl) ?_; simp only [Act.put, List.setIfInBounds_toArray, List.set_cons_zero, List.set_cons_succ]) | (go_at_call 46; refine (set_any _ ka kn kc kl (HK.out.calm KW.out) (by have := Hkm.out; omega)).mono ?_; rintro e w2 ⟨v2, rfl, n2⟩; obtain ⟨sa, sc, e2, sat, _⟩ := n2.1.at; subst e2; have HM : Hid _ := HM.out.calm n2.2.1; have KW : Hid _ := KW.out.trans n2.2.1; have HS : Hid _ := sat; have c0 := (PenP.at (show PenP _ b _ L P lost from HM.out.get 1 rfl) HSb.out).cells.1; clear n2 sat) | (go_at_call 70; refine (W_index _ ra L.length rc L (HR.out.calm KW.out) (by omega) _ _ _ (rdy kl) iall_eg (iallT _ sa _ sc (IdL.setL kl) HS.out (by have := IdL.setL_len kl; have := Hlk.out; have := Hkm.out; omega) (IdL.setL_srt kl) L (PenP.at (show PenP _ b _ L P lost from HM.out.get 1 rfl) HSb.out).par)).mono ?_; rw [HIX.out]; rintro e w3 ⟨rfl, k3⟩; have HM : Hid _ := HM.out.calm k3; have KW : Hid _ := KW.out.trans k3; clear k3) | (go_at_call 40; refine (Hcut.out _ (HM.out.get 1 rfl)).mono ?_; rintro e w5 ⟨rfl, v5, t5⟩; have HM : Hid _ := M.penp HM.out 1 rfl t5; clear t5) | (refine St.wl_alloc tyW rfl rfl (by (try simp only [World.size_alloc]); rfl) ?_; simp only [Act.put, List.setIfInBounds_toArray, List.set_cons_zero, List.set_cons_succ]) | (refine St.wl_storeN (W := w5) tyW rfl rfl rfl rfl rfl (by (try simp only [World.size_alloc])) (show _ = Value.agg (we x).toArray from rfl) (by rw [List.size_toArray]; exact W_enc.len x) rfl (W_enc.all x) ?_; have HM : Hid _ := HM.out.alloc (.cells (we x).toArray 71) rfl))
  obtain ⟨wb, hwb⟩ : ∃ b, w5.heap.size = b := ⟨_, rfl⟩
  rw [hwb] at HM ⊢
  clear hwb
  have HM : Hid _ := HM.out.drew
  refine Txt.wp_region_text (fun w' => w'.cell? ⟨wb, 70, none⟩ = some (.int .i64 x.fr)) [0, 1, 0, 2, 4, 0, 0] (by kernel_rfl) (by kernel_rfl) (wt_fr (HM.out.get 2 rfl)) ?_
  (repeat (first | (refine Txt.tl_pure (v := ?_) (by rfl) ?_ ?_; rotate_left; (focus (intro _; go_simp; try with_reducible rfl)); simp only [Act.put, List.setIfInBounds_toArray, List.set_cons_zero, List.set_cons_succ]) | (refine Txt.tl_load (v := ?_) (by rfl) (by rfl) (by rfl) (by kernel_rfl) ?_ ?_; rotate_left; (focus assumption); simp only [Act.put, List.setIfInBounds_toArray, List.set_cons_zero, List.set_cons_succ]) | (refine Txt.tl_loadS (v := ?_) (by rfl) (by rfl) (by rfl) (by kernel_rfl) ?_ ?_; rotate_left; (focus (exact fun _ h => h)); simp only [Act.put, List.setIfInBounds_toArray, List.set_cons_zero, List.set_cons_succ])))
  refine Txt.tl_rowN (n := 38) (ty := 30) (by rfl) (by rfl) (by rfl) (wt_hd (HM.out.get 2 rfl)) (by kernel_rfl) (hv_len x) ?_
  simp only [Act.put, List.setIfInBounds_toArray, List.set_cons_zero, List.set_cons_succ]
  (repeat (first | (refine Txt.tl_pure (v := ?_) (by rfl) ?_ ?_; rotate_left; (focus (intro _; go_simp; try with_reducible rfl)); simp only [Act.put, List.setIfInBounds_toArray, List.set_cons_zero, List.set_cons_succ]) | (refine Txt.tl_load (v := ?_) (by rfl) (by rfl) (by rfl) (by kernel_rfl) ?_ ?_; rotate_left; (focus assumption); simp only [Act.put, List.setIfInBounds_toArray, List.set_cons_zero, List.set_cons_succ]) | (refine Txt.tl_loadS (v := ?_) (by rfl) (by rfl) (by rfl) (by kernel_rfl) ?_ ?_; rotate_left; (focus (exact fun _ h => h)); simp only [Act.put, List.setIfInBounds_toArray, List.set_cons_zero, List.set_cons_succ])))
  refine Txt.tl_loadS (v := .int .i64 x.fr) (ty := 3) (by rfl) (by rfl) (by rfl) (by kernel_rfl) (fun _ h => h) ?_
  simp only [Act.put, List.setIfInBounds_toArray, List.set_cons_zero, List.set_cons_succ]
  refine Txt.tl_loud (by rfl) ?_
  refine St.wp_store tyH rfl rfl rfl rfl (cs := (hv x).toArray) (by rw [List.size_toArray]; exact hv_len x) (hd_one _ _ _ _ _ _ _ _ _) (HM.out.get 0 rfl) rfl ?_
  have HM : Hid _ := HM.out.setr 0 rfl (hv x).toArray
  refine ⟨wt_fr (HM.out.get 2 rfl), ?_⟩
  (repeat (first | (refine Txt.tl_pure (v := ?_) (by rfl) ?_ ?_; rotate_left; (focus (intro _; go_simp; try with_reducible rfl)); simp only [Act.put, List.setIfInBounds_toArray, List.set_cons_zero, List.set_cons_succ]) | (refine Txt.tl_load (v := ?_) (by rfl) (by rfl) (by rfl) (by kernel_rfl) ?_ ?_; rotate_left; (focus assumption); simp only [Act.put, List.setIfInBounds_toArray, List.set_cons_zero, List.set_cons_succ]) | (refine Txt.tl_loadS (v := ?_) (by rfl) (by rfl) (by rfl) (by kernel_rfl) ?_ ?_; rotate_left; (focus (exact fun _ h => h)); simp only [Act.put, List.setIfInBounds_toArray, List.set_cons_zero, List.set_cons_succ])))
  refine Txt.tl_nil ?_
  go_wp2
  refine bodyPost_ret (St.res3 tyH rfl _ _ _ ((hv x).toArray) (by rw [List.size_toArray]; exact hv_len x) rfl (HM.out.get 0 rfl) _ _ rfl rfl) rfl ?_
  exact ⟨rfl, _, PTo.ofI HM.out 1 rfl⟩
end
end Dr
end Go.Proofs.YtpchpdnjgdpdgaaGreatDoor
