/-
  The pen: cut.
-/
import Derived.Test.YtpchpdnjgdpdgaaGreatDoorPn3
import Derived.Test.YtpchpdnjgdpdgaaGreatDoorGTx
import Derived.Test.YtpchpdnjgdpdgaaGreatDoorGOp
set_option linter.unusedVariables false
set_option linter.unusedSimpArgs false
namespace Go.Proofs.YtpchpdnjgdpdgaaGreatDoor
open Go.RowKit
namespace Pn
open Oct Ids Gn Hd
open Mem (M It blk ids rows)

theorem pars_sub {L L' : List Wt} (hs : ∀ x ∈ L', x ∈ L) : (∀ k, (pars L').foot k → (pars L).foot k) ∧ ∀ w, (pars L).holds w → (pars L').holds w :=
  ⟨fun k ⟨x, hx, h⟩ => ⟨x, hs x hx, h⟩, fun w h x hx => h x (hs x hx)⟩
/-- The row is another one. -/
theorem swap_row {F : Nat → Prop} {w0 w w1 : World} {b : Nat} {v v' : Value} {L L' : List Wt} {lost : Int} {it : List It} (h : M F w0 w ([blk b (pc v lost), rows 71 71 we v L, pars L] ++ it)) (hn : St.New 71 71 we w w1 v' L') :
    M F w0 w1 ([blk b (pc v lost), rows 71 71 we v' L', pars L] ++ it) :=
  h.upd 1 rfl (S := fun _ => False) hn.2.1 (fun _ h => h.elim) (y := rows 71 71 we v' L') hn.1 (fun k hk => .inr ⟨hn.2.2 k hk, hn.1.lt hk⟩)
theorem mem_cut {L : List Wt} {i : Nat} : ∀ x ∈ L.take i ++ L.drop (i + 1), x ∈ L := fun x hx => by
  rcases List.mem_append.1 hx with h | h
  · exact List.mem_of_mem_take h
  · exact List.mem_of_mem_drop h
theorem setv {F : Nat → Prop} {w0 w : World} {it : List It} (h : M F w0 w it) (i : Nat) {b : Nat} {v : Value} {lost : Int} (hi : it[i]? = some (blk b (pc v lost))) (v' : Value) : M F w0 (w.setCell ⟨b, 0, none⟩ v') (it.set i (blk b (pc v' lost))) := h.setc i hi 0 v'
set_option maxRecDepth 100000 in
set_option maxHeartbeats 4000000 in
theorem pcut (w : World) (b : Nat) (v : Value) (L : List Wt) (lost : Int) (h : PenAt w b v L lost) (hl : L.length ≤ 1000) (i : Nat) (x : Wt) (hx : L[i]? = some x) :
    Calls Tryz.prog 40 #[.pointer (some ⟨b, 0, none⟩), .int .i64 i] w fun e w' => e = .returned (.agg (we x).toArray) ∧ ∃ v', M (foot b v L) w w' [blk b (pc v' lost), rows 71 71 we v' (L.take i ++ L.drop (i + 1)), pars L] := by
  have hil : i < L.length := (List.getElem?_eq_some_iff.1 hx).1
  have HM : Hid _ := h.all.alloc (.cells wz 71) rfl
  have c0 := HM.out.cell 0 rfl 0 rfl
  have h1 := h.own
  obtain ⟨hol, hnil | ⟨g, cap, cur, rfl, _, hg, hlc, hcm, hcs, htk⟩⟩ := h1.own
  · exfalso; have := hnil.2; omega
  obtain ⟨a, c, e, hat⟩ := h1.any
  cases e
  obtain ⟨n, hn⟩ : ∃ n, L.length = n := ⟨_, rfl⟩
  rw [hn] at hat hl hil hlc HM c0
  have HA : Hid (St.At 71 we w (some ⟨g, 0, none⟩) n L) := hat
  have HN : Hid (L.length = n) := hn
  obtain ⟨b1, o1, e1, hb1, hr1⟩ : ∃ b off, (some (⟨g, 0, none⟩ : Addr)) = some ⟨b, off, none⟩ ∧ b < w.heap.size ∧ ∀ i x, L[i]? = some x → w.rangeAt b (off + i * 71) (we x) := by rcases hat.lay with e | e; omega; exact e
  cases e1
  have HRx : Hid (w.rangeAt g (i * 71) (we x)) := by have := hr1 i x hx; rwa [Nat.zero_add] at this
  have HGs : Hid (g < w.heap.size) := hb1
  have Hx : Hid _ := hx
  obtain ⟨p, hp⟩ : ∃ p, i + 1 = p := ⟨_, rfl⟩
  have HP : Hid (i + 1 = p) := hp
  unfold maxLen at hcm
  have hpw : IntKind.i64.wrap ((i : Int) + 1) = (p : Int) := by rw [IntWalk.i64_in _ (by omega)]; omega
  have hpn : (p : Int) ≤ (n : Int) := by omega
  have hpc : (p : Int) ≤ (cap : Int) := by omega
  have hnc : (n : Int) ≤ (cap : Int) := by omega
  have hin : (i : Int) < (n : Int) := by omega
  have hic : (i : Int) ≤ (cap : Int) := by omega
  have HD : Hid (L.drop (i + 1) = L.drop p) := by show _ = _; rw [hp]
  have A1 : Hid (St.At 71 we w (some ⟨g, 0, none⟩) i (L.take i)) := hat.cut i (by omega)
  have HF : Hid (∀ k, foot b (.slice (some ⟨g, 0, none⟩) n cap) L k → foot b (.slice (some ⟨g, 0, none⟩) n cap) L k) := fun k h => h
  clear h1 hol hcs htk hg hb1 hcm hr1 hx h
  by_cases hcp : cap = p
  · obtain rfl : n = p := by omega
    subst hcp
    have A2 : Hid (St.At 71 we w (some ⟨g, 0, none⟩) 0 (L.drop cap)) := by
      rw [List.drop_eq_nil_of_le (by rw [hn]; exact Nat.le_refl _)]
      exact hat.empty
    clear hat hn hp
    go_enter Tryz.func40, Tryz.ntmps40
    go_wp2_with (first | ((with_reducible refine at_load 71 ?_); refine St.wl_load tyW (by rfl) rfl rfl (((Keep.refl (fun _ => False) w).alloc (.cells wz 71)).range HGs.out (fun h => h) HRx.out) (W_enc.len x) ?_; simp only [Act.put, List.setIfInBounds_toArray, List.set_cons_zero, List.set_cons_succ]) | (refine St.wl_alloc tyW rfl rfl (by (try simp only [World.size_alloc]); rfl) ?_; simp only [Act.put, List.setIfInBounds_toArray, List.set_cons_zero, List.set_cons_succ]) | (refine St.wl_storeN (W := w.alloc (.cells wz 71)) tyW rfl rfl rfl rfl rfl (by (try simp only [World.size_alloc])) (show _ = Value.agg (we x).toArray from rfl) (by rw [List.size_toArray]; exact W_enc.len x) rfl (W_enc.all x) ?_; have HM : Hid _ := HM.out.alloc (.cells (we x).toArray 71) (b := w.heap.size + 1) (by simp)))
    clear c0
    have c0 := HM.out.drew.cell 0 rfl 0 (v := .slice (some ⟨g, 0, none⟩) cap cap) rfl
    refine Txt.wp_region_text1 (fun w' => w'.cell? ⟨b, 0, none⟩ = some (.slice (some ⟨g, 0, none⟩) cap cap)) [0, 0, 0, 0, 1, 0, 0, 0, 0, 0, 1, 0, 0, 0, 3, 4, 0, 0, 4] (by kernel_rfl) (by kernel_rfl) c0 ?_
    simp only [List.dropLast]
    (repeat (first | (refine Txt.tl_pure (v := ?_) (by rfl) ?_ ?_; rotate_left; (focus (intro _; go_simp; try with_reducible rfl)); simp only [Act.put, List.setIfInBounds_toArray, List.set_cons_zero, List.set_cons_succ]) | (refine Txt.tl_load (v := ?_) (by rfl) (by rfl) (by rfl) (by kernel_rfl) ?_ ?_; rotate_left; (focus assumption); simp only [Act.put, List.setIfInBounds_toArray, List.set_cons_zero, List.set_cons_succ]) | (refine Txt.tl_loadS (v := ?_) (by rfl) (by rfl) (by rfl) (by kernel_rfl) ?_ ?_; rotate_left; (focus (exact fun _ h => h)); simp only [Act.put, List.setIfInBounds_toArray, List.set_cons_zero, List.set_cons_succ])))
    refine Txt.tl_alloc (by rfl) ?_
    go_simp
    have HM : Hid _ := (HM.out.alloc (.cells #[.slice (some ⟨g, 0, none⟩) i cap, .slice (some ⟨g, 0, none⟩) (0) (0)] 66) (b := w.heap.size + 1 + 1) (by simp)).drew
    refine ⟨⟨by first | exact Txt.Le.alloc_drew _ _ | exact Txt.Le.alloc _ _, HM.out.cell 0 rfl 0 rfl⟩, ?_⟩
    (repeat (first | (refine Txt.tl_pure (v := ?_) (by rfl) ?_ ?_; rotate_left; (focus (intro _; go_simp; try with_reducible rfl)); simp only [Act.put, List.setIfInBounds_toArray, List.set_cons_zero, List.set_cons_succ]) | (refine Txt.tl_load (v := ?_) (by rfl) (by rfl) (by rfl) (by kernel_rfl) ?_ ?_; rotate_left; (focus assumption); simp only [Act.put, List.setIfInBounds_toArray, List.set_cons_zero, List.set_cons_succ]) | (refine Txt.tl_loadS (v := ?_) (by rfl) (by rfl) (by rfl) (by kernel_rfl) ?_ ?_; rotate_left; (focus (exact fun _ h => h)); simp only [Act.put, List.setIfInBounds_toArray, List.set_cons_zero, List.set_cons_succ])))
    have KK : Hid (Keep (fun _ => False) w _) := ((((Keep.refl (fun _ => False) w).alloc (.cells wz 71)).alloc (.cells (we x).toArray 71)).alloc (.cells #[.slice (some ⟨g, 0, none⟩) i cap, .slice (some ⟨g, 0, none⟩) (0) (0)] 66)).drew
    refine Txt.tl_call Tryz.func75 (by kernel_rfl) (by kernel_rfl) (by rfl) (by rfl) (by rfl) (W_concat _ (w.heap.size + 1 + 1) i cap (0) (0) (some ⟨g, 0, none⟩) (some ⟨g, 0, none⟩) (L.take i) (L.drop cap) (HM.out.get 5 rfl) (A1.out.calm KK.out) (A2.out.calm KK.out) (by omega)) ?_
    rintro e w6 ⟨v6, rfl, n6⟩
    obtain ⟨a6, c6, e6, _⟩ := n6.1.any
    subst e6
    have HM : Hid _ := swap_row (L' := L.take i ++ L.drop cap) HM.out n6
    clear n6
    refine ⟨_, rfl, HM.out.cell 0 rfl 0 rfl, ?_⟩
    simp only [Act.put, List.setIfInBounds_toArray, List.set_cons_zero, List.set_cons_succ]
    (repeat (first | (refine Txt.tl_pure (v := ?_) (by rfl) ?_ ?_; rotate_left; (focus (intro _; go_simp; try with_reducible rfl)); simp only [Act.put, List.setIfInBounds_toArray, List.set_cons_zero, List.set_cons_succ]) | (refine Txt.tl_load (v := ?_) (by rfl) (by rfl) (by rfl) (by kernel_rfl) ?_ ?_; rotate_left; (focus assumption); simp only [Act.put, List.setIfInBounds_toArray, List.set_cons_zero, List.set_cons_succ]) | (refine Txt.tl_loadS (v := ?_) (by rfl) (by rfl) (by rfl) (by kernel_rfl) ?_ ?_; rotate_left; (focus (exact fun _ h => h)); simp only [Act.put, List.setIfInBounds_toArray, List.set_cons_zero, List.set_cons_succ])))
    refine Txt.tl_nil ?_
    refine Txt.tl_last (by rfl) (by rfl) ?_
    have f0 := HM.out.free 0 rfl 0
    have c0 := HM.out.cell 0 rfl 0 (v := .slice (some ⟨g, 0, none⟩) cap cap) rfl
    go_simp
    obtain ⟨v7, hv7⟩ : ∃ v, Value.slice a6 (L.take i ++ L.drop cap).length c6 = v := ⟨_, rfl⟩
    have HM : Hid _ := setv HM.out 0 rfl (.slice a6 (L.take i ++ L.drop cap).length c6)
    try simp only [List.length_append, List.length_take, List.length_drop] at HM ⊢
    clear f0 c0
    go_wp2_with (first | ((with_reducible refine at_load 71 ?_); refine St.wl_load tyW (by rfl) rfl rfl (HM.out.range 4 rfl) (W_enc.len x) ?_; simp only [Act.put, List.setIfInBounds_toArray, List.set_cons_zero, List.set_cons_succ]) | (refine St.wl_store tyW rfl rfl rfl rfl rfl (cs := (we x).toArray) (by rw [List.size_toArray]; exact W_enc.len x) (W_enc.all x) (HM.out.get 3 rfl) rfl ?_; have HM : Hid _ := HM.out.setr 3 rfl (we x).toArray))
    refine bodyPost_ret (St.res1 tyW rfl _ _ _ ((we x).toArray) (by rw [List.size_toArray]; exact W_enc.len x) rfl (HM.out.get 3 rfl)) rfl ?_
    rw [HN.out] at HM ⊢
    rw [HD.out]
    exact ⟨rfl, _, HM.out.take 3⟩
  · have A2 : Hid (St.At 71 we w (some ⟨g, p * 71, none⟩) (n - p) (L.drop p)) := by
      have := hat.tail p (by omega)
      rwa [Nat.zero_add] at this
    clear hat hn hp
    go_enter Tryz.func40, Tryz.ntmps40
    go_wp2_with (first | ((with_reducible refine at_load 71 ?_); refine St.wl_load tyW (by rfl) rfl rfl (((Keep.refl (fun _ => False) w).alloc (.cells wz 71)).range HGs.out (fun h => h) HRx.out) (W_enc.len x) ?_; simp only [Act.put, List.setIfInBounds_toArray, List.set_cons_zero, List.set_cons_succ]) | (refine St.wl_alloc tyW rfl rfl (by (try simp only [World.size_alloc]); rfl) ?_; simp only [Act.put, List.setIfInBounds_toArray, List.set_cons_zero, List.set_cons_succ]) | (refine St.wl_storeN (W := w.alloc (.cells wz 71)) tyW rfl rfl rfl rfl rfl (by (try simp only [World.size_alloc])) (show _ = Value.agg (we x).toArray from rfl) (by rw [List.size_toArray]; exact W_enc.len x) rfl (W_enc.all x) ?_; have HM : Hid _ := HM.out.alloc (.cells (we x).toArray 71) (b := w.heap.size + 1) (by simp)))
    clear c0
    have c0 := HM.out.drew.cell 0 rfl 0 (v := .slice (some ⟨g, 0, none⟩) n cap) rfl
    refine Txt.wp_region_text1 (fun w' => w'.cell? ⟨b, 0, none⟩ = some (.slice (some ⟨g, 0, none⟩) n cap)) [0, 0, 0, 0, 1, 0, 0, 0, 0, 0, 1, 0, 0, 0, 3, 4, 0, 0, 4] (by kernel_rfl) (by kernel_rfl) c0 ?_
    simp only [List.dropLast]
    (repeat (first | (refine Txt.tl_pure (v := ?_) (by rfl) ?_ ?_; rotate_left; (focus (intro _; go_simp; try with_reducible rfl)); simp only [Act.put, List.setIfInBounds_toArray, List.set_cons_zero, List.set_cons_succ]) | (refine Txt.tl_load (v := ?_) (by rfl) (by rfl) (by rfl) (by kernel_rfl) ?_ ?_; rotate_left; (focus assumption); simp only [Act.put, List.setIfInBounds_toArray, List.set_cons_zero, List.set_cons_succ]) | (refine Txt.tl_loadS (v := ?_) (by rfl) (by rfl) (by rfl) (by kernel_rfl) ?_ ?_; rotate_left; (focus (exact fun _ h => h)); simp only [Act.put, List.setIfInBounds_toArray, List.set_cons_zero, List.set_cons_succ])))
    refine Txt.tl_alloc (by rfl) ?_
    go_simp
    have HM : Hid _ := (HM.out.alloc (.cells #[.slice (some ⟨g, 0, none⟩) i cap, .slice (some ⟨g, p * 71, none⟩) (n - p) (cap - p)] 66) (b := w.heap.size + 1 + 1) (by simp)).drew
    refine ⟨⟨by first | exact Txt.Le.alloc_drew _ _ | exact Txt.Le.alloc _ _, HM.out.cell 0 rfl 0 rfl⟩, ?_⟩
    (repeat (first | (refine Txt.tl_pure (v := ?_) (by rfl) ?_ ?_; rotate_left; (focus (intro _; go_simp; try with_reducible rfl)); simp only [Act.put, List.setIfInBounds_toArray, List.set_cons_zero, List.set_cons_succ]) | (refine Txt.tl_load (v := ?_) (by rfl) (by rfl) (by rfl) (by kernel_rfl) ?_ ?_; rotate_left; (focus assumption); simp only [Act.put, List.setIfInBounds_toArray, List.set_cons_zero, List.set_cons_succ]) | (refine Txt.tl_loadS (v := ?_) (by rfl) (by rfl) (by rfl) (by kernel_rfl) ?_ ?_; rotate_left; (focus (exact fun _ h => h)); simp only [Act.put, List.setIfInBounds_toArray, List.set_cons_zero, List.set_cons_succ])))
    have KK : Hid (Keep (fun _ => False) w _) := ((((Keep.refl (fun _ => False) w).alloc (.cells wz 71)).alloc (.cells (we x).toArray 71)).alloc (.cells #[.slice (some ⟨g, 0, none⟩) i cap, .slice (some ⟨g, p * 71, none⟩) (n - p) (cap - p)] 66)).drew
    refine Txt.tl_call Tryz.func75 (by kernel_rfl) (by kernel_rfl) (by rfl) (by rfl) (by rfl) (W_concat _ (w.heap.size + 1 + 1) i cap (n - p) (cap - p) (some ⟨g, 0, none⟩) (some ⟨g, p * 71, none⟩) (L.take i) (L.drop p) (HM.out.get 5 rfl) (A1.out.calm KK.out) (A2.out.calm KK.out) (by omega)) ?_
    rintro e w6 ⟨v6, rfl, n6⟩
    obtain ⟨a6, c6, e6, _⟩ := n6.1.any
    subst e6
    have HM : Hid _ := swap_row (L' := L.take i ++ L.drop p) HM.out n6
    clear n6
    refine ⟨_, rfl, HM.out.cell 0 rfl 0 rfl, ?_⟩
    simp only [Act.put, List.setIfInBounds_toArray, List.set_cons_zero, List.set_cons_succ]
    (repeat (first | (refine Txt.tl_pure (v := ?_) (by rfl) ?_ ?_; rotate_left; (focus (intro _; go_simp; try with_reducible rfl)); simp only [Act.put, List.setIfInBounds_toArray, List.set_cons_zero, List.set_cons_succ]) | (refine Txt.tl_load (v := ?_) (by rfl) (by rfl) (by rfl) (by kernel_rfl) ?_ ?_; rotate_left; (focus assumption); simp only [Act.put, List.setIfInBounds_toArray, List.set_cons_zero, List.set_cons_succ]) | (refine Txt.tl_loadS (v := ?_) (by rfl) (by rfl) (by rfl) (by kernel_rfl) ?_ ?_; rotate_left; (focus (exact fun _ h => h)); simp only [Act.put, List.setIfInBounds_toArray, List.set_cons_zero, List.set_cons_succ])))
    refine Txt.tl_nil ?_
    refine Txt.tl_last (by rfl) (by rfl) ?_
    have f0 := HM.out.free 0 rfl 0
    have c0 := HM.out.cell 0 rfl 0 (v := .slice (some ⟨g, 0, none⟩) n cap) rfl
    go_simp
    obtain ⟨v7, hv7⟩ : ∃ v, Value.slice a6 (L.take i ++ L.drop p).length c6 = v := ⟨_, rfl⟩
    have HM : Hid _ := setv HM.out 0 rfl (.slice a6 (L.take i ++ L.drop p).length c6)
    try simp only [List.length_append, List.length_take, List.length_drop] at HM ⊢
    clear f0 c0
    go_wp2_with (first | ((with_reducible refine at_load 71 ?_); refine St.wl_load tyW (by rfl) rfl rfl (HM.out.range 4 rfl) (W_enc.len x) ?_; simp only [Act.put, List.setIfInBounds_toArray, List.set_cons_zero, List.set_cons_succ]) | (refine St.wl_store tyW rfl rfl rfl rfl rfl (cs := (we x).toArray) (by rw [List.size_toArray]; exact W_enc.len x) (W_enc.all x) (HM.out.get 3 rfl) rfl ?_; have HM : Hid _ := HM.out.setr 3 rfl (we x).toArray))
    refine bodyPost_ret (St.res1 tyW rfl _ _ _ ((we x).toArray) (by rw [List.size_toArray]; exact W_enc.len x) rfl (HM.out.get 3 rfl)) rfl ?_
    rw [HN.out] at HM ⊢
    rw [HD.out]
    exact ⟨rfl, _, HM.out.take 3⟩
end Pn
end Go.Proofs.YtpchpdnjgdpdgaaGreatDoor
