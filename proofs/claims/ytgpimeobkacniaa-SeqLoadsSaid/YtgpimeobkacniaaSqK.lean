/-
  The document's Load.
-/
import Derived.Test.YtgpimeobkacniaaSqM
set_option linter.unusedVariables false
set_option linter.unusedSimpArgs false
namespace Go.Proofs.Ytgpimeobkacniaa
open Go.RowKit
namespace Sq
open Oct Ids Mp Seg
open Mem (M It blk ids rows xr)
open Ref (endv)
/-- What it comes to. -/
structure QLdPost (w : World) (s : ByteArray) (e : Ending) (w' : World) : Prop where
  ex : ∃ (L : List Dn) (G : List Wd) (a : Nat) (b v : Int) (p : Value), e = .returned (.tuple #[p, .int .i64 v]) ∧ RdA s L G a b ∧ LdV s L G a b v ∧ Keep (fun _ => False) w w' ∧ (v ≠ 0 → p = .pointer none) ∧ (v = 0 → ∃ (b : Nat) (lv gv : Value), p = .pointer (some ⟨b, 0, none⟩) ∧ M (fun _ => False) w w' [xsI b lv gv L G])
theorem packX {F : Nat → Prop} {w0 w : World} {b : Nat} {lv gv : Value} {X : List Dn} {G : List Wd} {y : It} (h : M F w0 w (y :: xsit b lv gv X G)) : M F w0 w [xsI b lv gv X G] :=
  pack (l := []) (s := xsit b lv gv X G) (h.sub _ [1, 2, 3] (by decide) rfl) (xsI b lv gv X G) (mkXs (h.sub (xsit b lv gv X G) [1, 2, 3] (by decide) rfl)) (fun _ hk => xsfoot_to hk)
section
variable {o : Oper} {a : Act} {w : World} {K : Act → World → Prop} {Q : Exit → Act → World → Prop}
theorem wp_storeD {x y : Operand} (ho : o.op = .store 28 x y) (hd : o.dst = none) {p : Addr} (hx : a.eval x = .pointer (some p)) {ad : Option Addr} {n c : Nat} (hy : a.eval y = .slice ad n c) {old : Value} (hc : w.cell? p = some old) (hf : w.frozen? p = false)
    (h : K a (w.setCell p (.slice ad n c))) : o.wp Try.prog a w K Q := by
  unfold Oper.wp execOp
  simp only [ho, hx, hy, Sem.run_bind, run_storeD hc hf, Result.andThen_ok, Sem.run_pure]
  rw [Oper.upon_skip, hd]
  exact h
end
def NotP (p : Prop) : Prop := ¬ p
theorem srt_less {L : List Dn} {i : Nat} (h : IdL.Srt ((L.take (i + 1)).map (·.u))) : IdL.Srt ((L.take i).map (·.u)) := by
  rw [List.take_add_one, List.map_append] at h
  exact (List.pairwise_append.1 h).1
theorem srt_more {L : List Dn} {i : Nat} {y d : Dn} (hy : L[i]? = some y) (hd : L[i + 1]? = some d) : IdL.Srt ((L.take (i + 2)).map (·.u)) ↔ IdL.Srt ((L.take (i + 1)).map (·.u)) ∧ IdL.cmpL y.u d.u < 0 := by
  constructor
  · intro h
    refine ⟨srt_less h, ?_⟩
    have e1 : ((L.take (i + 2)).map (·.u))[i]? = some y.u := by rw [List.getElem?_map, List.getElem?_take, if_pos (by omega), hy]; rfl
    have e2 : ((L.take (i + 2)).map (·.u))[i + 1]? = some d.u := by rw [List.getElem?_map, List.getElem?_take, if_pos (by omega), hd]; rfl
    exact IdL.srt_next h e1 e2
  · rintro ⟨h, hc⟩
    rw [List.take_add_one, hd, List.map_append]
    unfold IdL.Srt at h ⊢
    rw [List.pairwise_append]
    refine ⟨h, by simp, fun x hx z hz => ?_⟩
    have hz' : z = d.u := by simpa using hz
    subst hz'
    rw [List.take_add_one, hy, List.map_append] at hx h
    rw [List.pairwise_append] at h
    rcases List.mem_append.1 hx with hx | hx
    · exact IdL.cmpL_trans _ _ _ (h.2.2 x hx y.u (by simp)) hc
    · have : x = y.u := by simpa using hx
      rw [this]
      exact hc
theorem srt_one (L : List Dn) : IdL.Srt ((L.take 1).map (·.u)) := by
  cases L with
  | nil => exact List.Pairwise.nil
  | cons d L => exact List.pairwise_singleton _ _
set_option maxRecDepth 100000 in
set_option maxHeartbeats 16000000 in
theorem qload_any (w : World) (s : ByteArray) (hs : s.size ≤ 30000) :
    Calls Try.prog 47 #[.string s] w (QLdPost w s) := by
  have Hs : Hid (s.size ≤ 30000) := hs
  have Hsm : Hid (s.size ≤ maxLen) := by show _ ≤ _; unfold maxLen; omega
  have HM : Hid (M (fun _ => False) w _ [xr w.heap.size s 0 0, blk (w.heap.size + 1) (xsc (.slice none 0 0) (.slice none 0 0)), rD (.slice none 0 0) [], ids (.slice none 0 0) []]) := ((((M.start (fun _ => False) w).xnew s Hsm.out rfl).alloc (xsc (.slice none 0 0) (.slice none 0 0)) (b := w.heap.size + 1) (by simp)).nilR 37 66 de).nilI
  obtain ⟨n, a1, b1, h1⟩ : ∃ x a' b', rnum s 0 0 4 = (x, a', b') := ⟨_, _, _, rfl⟩
  have H1 : Hid (rnum s 0 0 4 = (n, a1, b1)) := h1
  clear h1 hs
  go_enter Try.func47, Try.ntmps47
  go_wp2_with (first | (go_at_call 89; refine (M.xnum HM.out 0 rfl H1.out).mono ?_; rintro e w1 ⟨rfl, h1⟩; have HM : Hid (M (fun _ => False) w w1 [xr w.heap.size s a1 b1, blk (w.heap.size + 1) (xsc (.slice none 0 0) (.slice none 0 0)), rD (.slice none 0 0) [], ids (.slice none 0 0) []]) := h1; clear h1))
  obtain ⟨rb, hrb⟩ : ∃ b, w.heap.size = b := ⟨_, rfl⟩
  rw [hrb] at HM
  rw [hrb]
  obtain ⟨bx, hbx⟩ : ∃ b, rb + 1 = b := ⟨_, rfl⟩
  rw [hbx] at HM
  rw [hbx]
  clear hrb hbx
  go_loopw [7] (fun s7 wr => ∃ (k : Nat) (v : Value) (L : List Dn) (a : Nat) (bad : Int), k ≤ n ∧ s7 = .int .i64 k ∧ M (fun _ => False) w wr [xr rb s a bad, blk bx (xsc v (.slice none 0 0)), rD v L, ids (.slice none 0 0) []] ∧ rdL s a1 b1 k = (L, a, bad) ∧ (∀ j, j < k → (rdL s a1 b1 j).2.2 = 0)) (fun s7 _ => n - (intOf s7).toNat)
  case atStart => exact ⟨0, _, [], a1, b1, Nat.zero_le _, by go_num, HM.out, rfl, fun j hj => absurd hj (Nat.not_lt_zero _)⟩
  case round =>
    clear HM
    obtain ⟨k, v, L, a, bad, hk, rfl, hM, hR, hg⟩ := hrel
    have HM : Hid (M (fun _ => False) w wr [xr rb s a bad, blk bx (xsc v (.slice none 0 0)), rD v L, ids (.slice none 0 0) []]) := hM
    have HR : Hid (rdL s a1 b1 k = (L, a, bad)) := hR
    have HG : Hid (∀ j, j < k → (rdL s a1 b1 j).2.2 = 0) := hg
    have HLl : Hid (L.length = k) := by have := rdL_len s a1 b1 k; rw [hR] at this; exact this
    have ce := (M.xcells hM 0 rfl).2
    clear hM hR hg
    by_cases hcc : k < n ∧ bad = 0
    · obtain ⟨hlt, rfl⟩ := hcc
      have HG1 : Hid (∀ j, j < k + 1 → (rdL s a1 b1 j).2.2 = 0) := fun j hj => by
        rcases Nat.lt_or_ge j k with h1 | h1
        · exact HG.out j h1
        · obtain rfl : j = k := by omega
          rw [HR.out]
      have hkb : k ≤ 500 := by
        rcases Nat.eq_zero_or_pos k with h0 | h0
        · omega
        · have hb1 : b1 = 0 := HG.out 0 h0
          have := rdL_bound (k := k - 1) (s := s) (a := a1) (b := b1) (by
            have h1 := H1.out
            rw [hb1] at h1
            exact (num_ok (k := 4) (m := 4) (by decide) (by decide) h1 (Nat.zero_le _)).2) (fun i hi => HG.out i (by omega))
          have h3 := Hs.out
          omega
      obtain ⟨u, hu, n2, r, hr, x5, c5, e5, H5⟩ := r5_of s a 0
      have HS : Hid (rdL s a1 b1 (k + 1) = (L ++ [dn u hu n2 r hr x5], c5, e5)) := rdL_step HR.out H5.one
      obtain ⟨x1, c1, e1, c2, e2, x3, c3, e3, m, c4, e4, q1, q1', q2, q3, q3', q4, q5⟩ := H5
      have Q1 : Hid (rraw s a 0 32 = (x1, c1, e1)) := q1
      have Q1' : Hid (pad x1.data.toList = u) := q1'
      have Q2 : Hid (rnum s c1 e1 4 = (n2, c2, e2)) := q2
      have Q3 : Hid (rraw s c2 e2 32 = (x3, c3, e3)) := q3
      have Q3' : Hid (pad x3.data.toList = r) := q3'
      have Q4 : Hid (rnum s c3 e3 1 = (m, c4, e4)) := q4
      have Q5 : Hid (rraw s c4 e4 m = (x5, c5, e5)) := q5
      have HU : Hid (u.length = 32) := hu
      have HRl : Hid (r.length = 32) := hr
      clear q1 q1' q2 q3 q3' q4 q5
      go_wp2_with (first | (go_at_call 90; first | (refine (M.xid HM.out 0 rfl Q1.out).mono ?_; rw [Q1'.out]; rintro e w3 ⟨rfl, h3⟩; have HM : Hid (M (fun _ => False) w w3 [xr rb s c1 e1, blk bx (xsc v (.slice none 0 0)), rD v L, ids (.slice none 0 0) []]) := h3; clear h3 ce; obtain ⟨ob, hob⟩ : ∃ ob, w3.heap.size = ob := ⟨_, rfl⟩; have Hob : Hid (w3.heap.size = ob) := hob; clear hob) | (refine (M.xid HM.out 0 rfl Q3.out).mono ?_; rw [Q3'.out]; rintro e w5 ⟨rfl, h5⟩; have HM : Hid _ := h5; clear h5)) | (refine wl_buildL rfl rfl [(0, idv u)] rfl (built_Node u HU.out) ?_; simp only [Act.put, List.setIfInBounds_toArray, List.set_cons_zero, List.set_cons_succ]) | ((with_reducible refine at_alloc 37 ?_); refine St.wl_alloc tyD rfl rfl Hob.out ?_; simp only [Act.put, List.setIfInBounds_toArray, List.set_cons_zero, List.set_cons_succ]) | ((with_reducible refine at_store 37 ?_); refine St.wl_storeN (W := w3) tyD rfl rfl rfl rfl rfl Hob.out (show _ = Value.agg (de (dn u HU.out 0 Zi zl ByteArray.empty)).toArray from rfl) (de_sz66 _) rfl (encD.all _) ?_; have HM : Hid (M (fun _ => False) w _ [xr rb s c1 e1, blk bx (xsc v (.slice none 0 0)), rD v L, ids (.slice none 0 0) [], blk ob (.cells (de (dn u HU.out 0 Zi zl ByteArray.empty)).toArray 37)]) := HM.out.alloc (.cells (de (dn u HU.out 0 Zi zl ByteArray.empty)).toArray 37) Hob.out) | (go_at_call 89; first | (refine (M.xnum HM.out 0 rfl Q2.out).mono ?_; rintro e w4 ⟨rfl, h4⟩; have HM : Hid _ := h4; clear h4) | (refine (M.xnum HM.out 0 rfl Q4.out).mono ?_; rintro e w6 ⟨rfl, h6⟩; have HM : Hid _ := h6; clear h6)) | ((with_reducible refine at_store 3 ?_); refine wl_storeInt rfl rfl rfl rfl rfl (rng_h (HM.out.range 4 rfl)) (HM.out.free 4 rfl 32) ?_; have HM := HM.out.setc 4 rfl 32 (.int .i64 n2); rw [de_h] at HM; have HM : Hid _ := HM) | ((with_reducible refine at_store 35 ?_); refine St.wl_storeMid tyI rfl rfl rfl rfl rfl (cs := (r.map bv).toArray) (by rw [List.size_toArray, List.length_map]; exact HRl.out) (one_bv r) (HM.out.get 4 rfl) (by rw [de_sz66]; decide) (de_mid HRl.out) ?_; have HM : Hid _ := HM.out.setr 4 rfl (de (dn u HU.out n2 r HRl.out ByteArray.empty)).toArray) | (go_at_call 91; refine (M.xraw HM.out 0 rfl Q5.out).mono ?_; rintro e w7 ⟨rfl, h7⟩; have HM : Hid _ := h7; clear h7) | ((with_reducible refine at_store 9 ?_); refine wl_storeStr rfl rfl rfl rfl rfl (rng_v (HM.out.range 4 rfl)) (HM.out.free 4 rfl 65) ?_; have HM := HM.out.setc 4 rfl 65 (.string x5); rw [de_v] at HM; have HM : Hid _ := HM))
      have HM : Hid _ := HM.out.drew
      have c0 := HM.out.cell 1 rfl 0 (v := v) rfl
      refine Txt.wp_region_text (fun _ => True) [0, 0, 0, 0, 1, 1, 3, 4, 0, 0, 4] (by kernel_rfl) (by kernel_rfl) trivial ?_
      (repeat (first | (refine Txt.tl_pure (v := ?_) (by rfl) ?_ ?_; rotate_left; (focus (intro _; go_simp; try with_reducible rfl)); simp only [Act.put, List.setIfInBounds_toArray, List.set_cons_zero, List.set_cons_succ]) | (refine Txt.tl_load (v := v) (ty := 28) (by rfl) (by rfl) (by rfl) (by kernel_rfl) c0 ?_; simp only [Act.put, List.setIfInBounds_toArray, List.set_cons_zero, List.set_cons_succ]) | (refine Txt.tl_rowN (n := 66) (ty := 37) (by rfl) (by rfl) (by rfl) (HM.out.range 4 rfl) (by kernel_rfl) (de_len _) ?_; simp only [Act.put, List.setIfInBounds_toArray, List.set_cons_zero, List.set_cons_succ])))
      refine Txt.tl_alloc (by rfl) ?_
      refine St.wp_build slD (by decide) rfl (de_len _) rfl ?_
      have HM : Hid _ := HM.out.alloc (.cells (de (dn u HU.out n2 r HRl.out x5)).toArray 37) rfl
      refine ⟨⟨Txt.Le.alloc _ _, trivial⟩, ?_⟩
      simp only [Act.put, List.setIfInBounds_toArray, List.set_cons_zero, List.set_cons_succ]
      refine Txt.tl_loud (by rfl) ?_
      refine St.wp_app1z encD slD (by decide) rfl rfl (HM.out.get 2 rfl) rfl (dn u HU.out n2 r HRl.out x5) rfl (HM.out.get 5 rfl) (by have := HLl.out; omega) ?_
      intro v8 w8 h8 k8 g8
      obtain ⟨ya, yn, yc, hy⟩ : ∃ a n c, v8 = .slice a n c := (by obtain ⟨a, c, e, _⟩ := h8.any; exact ⟨_, _, _, e⟩)
      have HM : Hid _ := HM.out.appR 2 rfl h8 k8 g8
      clear h8 k8 g8 c0
      subst hy
      refine ⟨trivial, ?_⟩
      simp only [Act.put, List.setIfInBounds_toArray, List.set_cons_zero, List.set_cons_succ]
      (repeat (first | (refine Txt.tl_pure (v := ?_) (by rfl) ?_ ?_; rotate_left; (focus (intro _; go_simp; try with_reducible rfl)); simp only [Act.put, List.setIfInBounds_toArray, List.set_cons_zero, List.set_cons_succ])))
      refine Txt.tl_loud (by rfl) ?_
      refine wp_storeD rfl rfl rfl rfl (HM.out.cell 1 rfl 0 rfl) (HM.out.free 1 rfl 0) ?_
      have HM : Hid _ := HM.out.setc 1 rfl 0 (.slice ya yn yc)
      refine ⟨trivial, ?_⟩
      refine Txt.tl_nil ?_
      go_wp2
      go_roundw
      case rel => exact ⟨k + 1, .slice ya yn yc, _, c5, e5, by omega, by go_num, HM.out.take 4, HS.out, HG1.out⟩
      case measure => simp [intOf]; omega
    · obtain ⟨m, a3, b3, q6⟩ : ∃ x a' b', rnum s a bad 4 = (x, a', b') := ⟨_, _, _, rfl⟩
      have Q6 : Hid (rnum s a bad 4 = (m, a3, b3)) := q6
      clear q6
      by_cases hlt : k < n
      · have hbz : ¬ bad = 0 := fun h => hcc ⟨hlt, h⟩
        have HTl : Hid (Til (rdL s a1 b1) n k) := ⟨hk, HG.out, .inr (by rw [HR.out]; exact hbz)⟩
        clear hcc
        go_wp2_with (first | (go_at_call 89; refine (M.xnum HM.out 0 rfl Q6.out).mono ?_; rintro e w9 ⟨rfl, h9⟩; have HM : Hid (M (fun _ => False) w w9 [xr rb s a3 b3, blk bx (xsc v (.slice none 0 0)), rD v L, ids (.slice none 0 0) []]) := h9; clear h9 ce))
        have ha3 : a3 ≤ s.size := (show Ref.IsXa w9 rb s a3 b3 from HM.out.get 0 rfl).le
        go_loopw [10] (fun s10 wr => ∃ (j : Nat) (v2 : Value) (G : List Wd) (a : Nat) (bad : Int), j ≤ m ∧ s10 = .int .i64 j ∧ M (fun _ => False) w wr [xr rb s a bad, blk bx (xsc v v2), rD v L, ids v2 G] ∧ rdIds s a3 b3 j = (G, a, bad) ∧ (∀ i, i < j → (rdIds s a3 b3 i).2.2 = 0)) (fun s10 _ => m - (intOf s10).toNat)
        case atStart => exact ⟨0, _, [], a3, b3, Nat.zero_le _, by go_num, HM.out, rfl, fun j hj => absurd hj (Nat.not_lt_zero _)⟩
        case round =>
          clear HM
          obtain ⟨j, v2, G, a4, bad4, hj, rfl, hM, hR2, hg2⟩ := hrel
          have HM : Hid (M (fun _ => False) w wr [xr rb s a4 bad4, blk bx (xsc v v2), rD v L, ids v2 G]) := hM
          have HR2 : Hid (rdIds s a3 b3 j = (G, a4, bad4)) := hR2
          have HG2 : Hid (∀ i, i < j → (rdIds s a3 b3 i).2.2 = 0) := hg2
          have HGl : Hid (G.length = j) := by have := rdIds_len s a3 b3 j; rw [hR2] at this; exact this
          have ce := (M.xcells hM 0 rfl).2
          clear hM hR2 hg2
          by_cases hc2 : j < m ∧ bad4 = 0
          · obtain ⟨hlt2, rfl⟩ := hc2
            have HG3 : Hid (∀ i, i < j + 1 → (rdIds s a3 b3 i).2.2 = 0) := fun i hi => by
              rcases Nat.lt_or_ge i j with h1 | h1
              · exact HG2.out i h1
              · obtain rfl : i = j := by omega
                rw [HR2.out]
            have hjb : j ≤ 950 := by
              have := ids_bound (k := j) ha3 (fun i hi => HG3.out i (by omega))
              have := Hs.out
              omega
            obtain ⟨x, a', b', hx⟩ : ∃ x a' b', rraw s a4 0 32 = (x, a', b') := ⟨_, _, _, rfl⟩
            have HS2 : Hid (rdIds s a3 b3 (j + 1) = (G ++ [pad x.data.toList], a', b')) := rdIds_step HR2.out hx
            have Hx : Hid (rraw s a4 0 32 = (x, a', b')) := hx
            obtain ⟨u, hu⟩ : ∃ u, pad x.data.toList = u := ⟨_, rfl⟩
            have HUe : Hid (pad x.data.toList = u) := hu
            have HU : Hid (u.length = 32) := by show _ = _; rw [← hu]; exact pad_32 hx
            clear hx hu
            go_wp2
            have HM : Hid _ := HM.out.drew
            refine Txt.wp_region_text1 (fun w' => w'.cell? ⟨bx, 1, none⟩ = some v2) [0, 0, 0, 0, 2, 0, 4, 3, 4, 0, 0, 4] (by kernel_rfl) (by kernel_rfl) (HM.out.cell 1 rfl 1 rfl) ?_
            simp only [List.dropLast]
            (repeat (first | (refine Txt.tl_pure (v := ?_) (by rfl) ?_ ?_; rotate_left; (focus (intro _; go_simp; try with_reducible rfl)); simp only [Act.put, List.setIfInBounds_toArray, List.set_cons_zero, List.set_cons_succ])))
            refine Txt.tl_loadS (v := v2) (by rfl) (by rfl) (by rfl) (by kernel_rfl) (fun _ h => h) ?_
            simp only [Act.put, List.setIfInBounds_toArray, List.set_cons_zero, List.set_cons_succ]
            (repeat (first | (refine Txt.tl_pure (v := ?_) (by rfl) ?_ ?_; rotate_left; (focus (intro _; go_simp; try with_reducible rfl)); simp only [Act.put, List.setIfInBounds_toArray, List.set_cons_zero, List.set_cons_succ])))
            refine Txt.tl_call Try.func90 (by kernel_rfl) (by kernel_rfl) (by rfl) (by rfl) (by rfl) (M.xid HM.out 0 rfl Hx.out) ?_
            rw [HUe.out]
            rintro e w3 ⟨rfl, h3⟩
            have HM : Hid _ := h3
            clear h3
            refine ⟨_, rfl, HM.out.cell 1 rfl 1 rfl, ?_⟩
            simp only [Act.put, List.setIfInBounds_toArray, List.set_cons_zero, List.set_cons_succ]
            refine Txt.tl_alloc (by rfl) ?_
            refine Ids.wp_build rfl HU.out rfl ?_
            have HM : Hid _ := HM.out.alloc (.cells (u.map bv).toArray 35) rfl
            refine ⟨⟨Txt.Le.alloc _ _, HM.out.cell 1 rfl 1 rfl⟩, ?_⟩
            simp only [Act.put, List.setIfInBounds_toArray, List.set_cons_zero, List.set_cons_succ]
            refine Txt.tl_loud (by rfl) ?_
            refine Ids.wp_app1 rfl rfl (HM.out.get 3 rfl) rfl HU.out (HM.out.get 4 rfl) (by have := HGl.out; omega) ?_
            intro v8 w8 h8 k8 g8
            obtain ⟨ya, yn, yc, hy⟩ : ∃ a n c, v8 = .slice a n c := (by obtain ⟨a, c, e, _⟩ := h8.at; exact ⟨_, _, _, e⟩)
            have HM : Hid _ := HM.out.appI 3 rfl h8 k8 g8
            clear h8 k8 g8
            subst hy
            refine ⟨HM.out.cell 1 rfl 1 rfl, ?_⟩
            simp only [Act.put, List.setIfInBounds_toArray, List.set_cons_zero, List.set_cons_succ]
            (repeat (first | (refine Txt.tl_pure (v := ?_) (by rfl) ?_ ?_; rotate_left; (focus (intro _; go_simp; try with_reducible rfl)); simp only [Act.put, List.setIfInBounds_toArray, List.set_cons_zero, List.set_cons_succ])))
            refine Txt.tl_nil ?_
            refine Txt.tl_last (by rfl) (by rfl) ?_
            refine wp_storeI rfl rfl rfl rfl (HM.out.cell 1 rfl 1 rfl) (HM.out.free 1 rfl 1) ?_
            have HM : Hid _ := HM.out.setc 1 rfl 1 (.slice ya yn yc)
            go_wp2
            go_roundw
            case rel => exact ⟨j + 1, .slice ya yn yc, G ++ [u], a', b', by omega, by go_num, HM.out.take 4, by rw [HS2.out, HUe.out], HG3.out⟩
            case measure => simp [intOf]; omega
          · by_cases hb4 : bad4 = 0
            · subst hb4
              obtain rfl : m = j := by omega
              have HT2 : Hid (Til (rdIds s a3 b3) m m) := ⟨Nat.le_refl _, HG2.out, .inl rfl⟩
              have HRA : Hid (RdA s L G a4 0) := ⟨_, _, _, _, _, _, _, _, _, _, H1.out, HTl.out, HR.out, Q6.out, HT2.out, HR2.out⟩
              clear hc2
              obtain ⟨la, lc, el, _⟩ := (show St.Own 37 66 de wr v L from HM.out.get 2 rfl).any
              subst el
              obtain ⟨ga, gc, eg, _⟩ := (show Ids.Own wr v2 G from HM.out.get 3 rfl).at
              subst eg
              obtain ⟨q, hq⟩ : ∃ q, L.length = q := ⟨_, rfl⟩
              obtain ⟨g, hg⟩ : ∃ g, G.length = g := ⟨_, rfl⟩
              have Hq : Hid (L.length = q) := hq
              have Hg : Hid (G.length = g) := hg
              rw [hq, hg] at HM
              obtain ⟨hq5, hg9⟩ := HRA.out.bound Hs.out
              rw [hq] at hq5
              rw [hg] at hg9
              clear hq hg
              go_wp2
              go_loopw [11] (fun s11 wr => ∃ (i : Nat), i ≤ q ∧ s11 = .int .i64 i ∧ M (fun _ => False) w wr [xr rb s a4 0, blk bx (xsc (.slice la q lc) (.slice ga g gc)), rD (.slice la q lc) L, ids (.slice ga g gc) G] ∧ (∀ d ∈ L.take i, chk d.u d.x = 0)) (fun s11 _ => q - (intOf s11).toNat)
              case atStart => exact ⟨0, Nat.zero_le _, by go_num, HM.out, fun d hd => by cases hd⟩
              case round =>
                clear HM ce
                obtain ⟨i, hi, rfl, hM, hck⟩ := hrel
                have HM : Hid (M (fun _ => False) w wr [xr rb s a4 0, blk bx (xsc (.slice la q lc) (.slice ga g gc)), rD (.slice la q lc) L, ids (.slice ga g gc) G]) := hM
                have HCk : Hid (∀ d ∈ L.take i, chk d.u d.x = 0) := hck
                clear hM hck
                have c0 := HM.out.cell 1 rfl 0 (v := .slice la q lc) rfl
                have c1 := HM.out.cell 1 rfl 1 (v := .slice ga g gc) rfl
                by_cases hlt3 : i < q
                · obtain ⟨d, hd⟩ : ∃ d, L[i]? = some d := ⟨_, List.getElem?_eq_getElem (by rw [Hq.out]; exact hlt3)⟩
                  have Hd : Hid (L[i]? = some d) := hd
                  obtain ⟨g0, o0, e0, _, hr0⟩ := (own_sl (show St.Own 37 66 de wr (.slice la q lc) L from HM.out.get 2 rfl)).2.lay.resolve_left (by omega)
                  subst e0
                  have Rd : Hid (wr.rangeAt g0 (o0 + i * 66) (de d)) := hr0 i d hd
                  have HDl : Hid ((de d).length = 66) := de_len d
                  obtain ⟨tc, htc⟩ : ∃ t, chk d.u d.x = t := ⟨_, rfl⟩
                  have HT : Hid (chk d.u d.x = tc) := htc
                  have HXk : Hid (∀ w, Calls Try.prog 92 #[.agg (de d).toArray] w fun e w' => e = .returned (.int .i64 tc) ∧ Keep (fun _ => False) w w') := fun w => by
                    have := xcheck_any w d (Nat.le_trans (HRA.out.vs d (List.mem_of_getElem? hd)) Hsm.out)
                    rwa [htc] at this
                  clear hr0 hd htc
                  by_cases h0 : tc = 0
                  · subst h0
                    go_wp2_with (first | ((with_reducible refine at_load 37 ?_); refine St.wl_load tyD rfl rfl rfl Rd.out HDl.out ?_; simp only [Act.put, List.setIfInBounds_toArray, List.set_cons_zero, List.set_cons_succ]) | (go_at_call 92; refine (HXk.out _).mono ?_; rintro e w6 ⟨rfl, k6⟩; have HM : Hid _ := HM.out.calm k6; clear k6))
                    go_roundw
                    case rel => exact ⟨i + 1, by omega, by go_num, HM.out, take_ck Hd.out HCk.out HT.out⟩
                    case measure => simp [intOf]; omega
                  · have hbf : (tc != 0) = true := by simpa using h0
                    have H0 : Hid (tc ≠ 0) := h0
                    go_wp2_with (first | ((with_reducible refine at_load 37 ?_); refine St.wl_load tyD rfl rfl rfl Rd.out HDl.out ?_; simp only [Act.put, List.setIfInBounds_toArray, List.set_cons_zero, List.set_cons_succ]) | (go_at_call 92; refine (HXk.out _).mono ?_; rintro e w6 ⟨rfl, k6⟩; have HM : Hid _ := HM.out.calm k6; clear k6))
                    go_ret2
                    exact ⟨L, G, a4, 0, tc, _, rfl, HRA.out, .inr ⟨rfl, .inl ⟨d, bad_at Hd.out HCk.out (by rw [HT.out]; exact H0.out), HT.out.symm⟩⟩, HM.out.keep, fun _ => rfl, fun h => absurd h H0.out⟩
                · obtain rfl : q = i := by omega
                  have HTk : Hid (L.take q = L) := List.take_of_length_le (by rw [Hq.out]; exact Nat.le_refl _)
                  have HCa : Hid (∀ d ∈ L, chk d.u d.x = 0) := fun d hd => HCk.out d (by rw [HTk.out]; exact hd)
                  rcases endv_zf s a4 with he | he
                  · have Hev : Hid (endv s a4 0 = 0) := he
                    obtain ⟨r, hr⟩ : ∃ r, decide (G = IdL.setL G) = r := ⟨_, rfl⟩
                    have HIs : Hid (∀ w1, At w1 ga g G → Calls Try.prog 94 #[.slice ga g gc] w1 fun e w' => e = .returned (.bool r) ∧ Keep (fun _ => False) w1 w') := fun w1 h1 => by
                      have := xis_any w1 ga g gc G h1 (by omega)
                      rwa [hr] at this
                    have HOk : Hid (r = true ↔ (endv s a4 0 = 0 ∧ IdL.Srt G)) := by
                      show _ ↔ _
                      rw [← hr, decide_eq_true_iff, ← IdL.srt_iff]
                      exact ⟨fun h => ⟨he, h.symm⟩, fun h => h.2.symm⟩
                    clear he hr
                    go_wp2_with (first | (go_at_call 93; refine (M.xend HM.out 0 rfl Hev.out).mono ?_; rintro e w7 ⟨rfl, h7⟩; replace h7 := h7.symm; subst h7) | (go_at_call 94; refine (HIs.out _ (own_idat (HM.out.get 3 rfl))).mono ?_; rintro e w8 ⟨rfl, k8⟩; have HM : Hid _ := HM.out.calm k8; clear k8))
                    go_loopw [14, 13] (fun s14 s13 wr => ∃ (i : Nat) (ok : Bool), (i + 1 ≤ q ∨ i = 0) ∧ s14 = .int .i64 ((i : Int) + 1) ∧ s13 = .bool ok ∧ M (fun _ => False) w wr [xr rb s a4 0, blk bx (xsc (.slice la q lc) (.slice ga g gc)), rD (.slice la q lc) L, ids (.slice ga g gc) G] ∧ (ok = true ↔ (endv s a4 0 = 0 ∧ IdL.Srt G ∧ IdL.Srt ((L.take (i + 1)).map (·.u))))) (fun s14 _ _ => q - (intOf s14).toNat)
                    case atStart => exact ⟨0, r, .inr rfl, by simp, rfl, HM.out, ⟨fun h => ⟨(HOk.out.1 h).1, (HOk.out.1 h).2, srt_one L⟩, fun h => HOk.out.2 ⟨h.1, h.2.1⟩⟩⟩
                    case round =>
                      clear HM c0 c1
                      obtain ⟨i, ok, hi4, rfl, rfl, hM, hok⟩ := hrel
                      have HM : Hid (M (fun _ => False) w wr [xr rb s a4 0, blk bx (xsc (.slice la q lc) (.slice ga g gc)), rD (.slice la q lc) L, ids (.slice ga g gc) G]) := hM
                      have HOk : Hid (ok = true ↔ (endv s a4 0 = 0 ∧ IdL.Srt G ∧ IdL.Srt ((L.take (i + 1)).map (·.u)))) := hok
                      clear hM hok
                      have c0 := HM.out.cell 1 rfl 0 (v := .slice la q lc) rfl
                      by_cases hlt4 : i + 1 < q
                      · obtain ⟨y, hy⟩ : ∃ y, L[i]? = some y := ⟨_, List.getElem?_eq_getElem (by rw [Hq.out]; omega)⟩
                        obtain ⟨d, hd⟩ : ∃ d, L[i + 1]? = some d := ⟨_, List.getElem?_eq_getElem (by rw [Hq.out]; exact hlt4)⟩
                        have HSm : Hid _ := srt_more hy hd
                        have Hy : Hid (L[i]? = some y) := hy
                        have Hd : Hid (L[i + 1]? = some d) := hd
                        have HYl : Hid (y.u.length = 32) := y.hu
                        have HU : Hid (d.u.length = 32) := d.hu
                        obtain ⟨g0, o0, e0, _, _⟩ := (own_sl (show St.Own 37 66 de wr (.slice la q lc) L from HM.out.get 2 rfl)).2.lay.resolve_left (by omega)
                        subst e0
                        have hlt5 : (i : Int) + 1 < (q : Int) := by omega
                        have hiq : i < q := by omega
                        have h0i : (0 : Int) ≤ (i : Int) + 1 := by omega
                        have hti : ((i : Int) + 1).toNat = i + 1 := by omega
                        have hwr : IntKind.i64.wrap (i : Int) = (i : Int) := by rw [IntKind.wrap_i64]; omega
                        obtain ⟨c, hc⟩ : ∃ c, IdL.cmpL y.u d.u = c := ⟨_, rfl⟩
                        have HCc : Hid (IdL.cmpL y.u d.u = c) := hc
                        have HC : Hid (∀ w, Calls Try.prog 54 #[idv y.u, idv d.u] w fun e w' => e = .returned (.int .i64 c) ∧ Keep (fun _ => False) w w') := fun w => by
                          have := xcompare_any w y.u d.u y.hu d.hu
                          rwa [hc] at this
                        clear hy hd hc
                        cases ok with
                        | false =>
                          go_wp2
                          have HM : Hid _ := HM.out.drew
                          refine Txt.wp_region_text (fun _ => True) [0, 0, 0, 0, 0, 1, 0, 0, 0, 0, 1, 0, 0, 0, 1, 0, 0, 0, 1, 4, 0, 0, 0] (by kernel_rfl) (by kernel_rfl) trivial ?_
                          (repeat (first | (refine Txt.tl_pure (v := ?_) (by rfl) ?_ ?_; rotate_left; (focus (intro _; go_simp; try with_reducible rfl)); simp only [Act.put, List.setIfInBounds_toArray, List.set_cons_zero, List.set_cons_succ]) | (refine Txt.tl_skip (by rfl) trivial ?_; simp only [Act.put, List.setIfInBounds_toArray, List.set_cons_zero, List.set_cons_succ])))
                          refine Txt.tl_nil ?_
                          go_wp2
                          go_roundw
                          case rel => exact ⟨i + 1, false, .inl (by omega), by go_num, rfl, HM.out, ⟨fun h => (by cases h), fun h => HOk.out.2 ⟨h.1, h.2.1, (HSm.out.1 h.2.2).1⟩⟩⟩
                          case measure => simp [intOf]; omega
                        | true =>
                          by_cases hcn : c < 0
                          · have HF : Hid (endv s a4 0 = 0 ∧ IdL.Srt G ∧ IdL.Srt ((L.take (i + 2)).map (·.u))) := ⟨(HOk.out.1 rfl).1, (HOk.out.1 rfl).2.1, HSm.out.2 ⟨(HOk.out.1 rfl).2.2, by rw [HCc.out]; exact hcn⟩⟩
                            go_wp2
                            have HM : Hid _ := HM.out.drew
                            have c0 := HM.out.cell 1 rfl 0 (v := .slice (some ⟨g0, o0, none⟩) q lc) rfl
                            have RZ := (own_sl (show St.Own 37 66 de _ (.slice (some ⟨g0, o0, none⟩) q lc) L from HM.out.get 2 rfl)).2.lay.resolve_left (by omega) |> fun ⟨_, _, e, _, hr⟩ => (by cases e; exact hr i y Hy.out : World.rangeAt _ g0 (o0 + i * 66) (de y))
                            have RY : Hid _ := rng_u RZ
                            clear RZ
                            have RZ := (own_sl (show St.Own 37 66 de _ (.slice (some ⟨g0, o0, none⟩) q lc) L from HM.out.get 2 rfl)).2.lay.resolve_left (by omega) |> fun ⟨_, _, e, _, hr⟩ => (by cases e; exact hr (i + 1) d Hd.out : World.rangeAt _ g0 (o0 + (i + 1) * 66) (de d))
                            have RU : Hid _ := rng_u RZ
                            clear RZ
                            refine Txt.wp_region_text (fun _ => True) [0, 0, 0, 0, 0, 1, 0, 0, 0, 0, 1, 0, 0, 0, 1, 0, 0, 0, 1, 4, 0, 0, 0] (by kernel_rfl) (by kernel_rfl) trivial ?_
                            (repeat (first | ((with_reducible refine at_dt 138 ?_); refine Txt.tl_pure (v := .int .i64 (i : Int)) (by rfl) ?_ ?_; (focus (intro _; go_simp; try exact hwr)); simp only [Act.put, List.setIfInBounds_toArray, List.set_cons_zero, List.set_cons_succ]) | (refine Txt.tl_pure (v := ?_) (by rfl) ?_ ?_; rotate_left; (focus (intro _; go_simp; try with_reducible rfl)); simp only [Act.put, List.setIfInBounds_toArray, List.set_cons_zero, List.set_cons_succ]) | (refine Txt.tl_load (v := ?_) (by rfl) (by rfl) (by rfl) (by kernel_rfl) ?_ ?_; rotate_left; (focus assumption); simp only [Act.put, List.setIfInBounds_toArray, List.set_cons_zero, List.set_cons_succ]) | (refine Txt.tl_rowN (n := 32) (ty := 35) (by rfl) (by rfl) (by rfl) RY.out (by kernel_rfl) (by rw [List.length_map]; exact HYl.out) ?_; simp only [Act.put, List.setIfInBounds_toArray, List.set_cons_zero, List.set_cons_succ]) | (refine Txt.tl_rowN (n := 32) (ty := 35) (by rfl) (by rfl) (by rfl) RU.out (by kernel_rfl) (by rw [List.length_map]; exact HU.out) ?_; simp only [Act.put, List.setIfInBounds_toArray, List.set_cons_zero, List.set_cons_succ])))
                            refine Txt.tl_call Try.func54 (by kernel_rfl) (by kernel_rfl) (by rfl) (by rfl) (by rfl) (HC.out _) ?_
                            rintro e w9 ⟨rfl, k9⟩
                            have HM : Hid _ := HM.out.calm k9
                            clear k9 c0
                            refine ⟨_, rfl, trivial, ?_⟩
                            simp only [Act.put, List.setIfInBounds_toArray, List.set_cons_zero, List.set_cons_succ]
                            (repeat (first | (refine Txt.tl_pure (v := ?_) (by rfl) ?_ ?_; rotate_left; (focus (intro _; go_simp; try with_reducible rfl)); simp only [Act.put, List.setIfInBounds_toArray, List.set_cons_zero, List.set_cons_succ]) | (refine Txt.tl_skip (by rfl) trivial ?_; simp only [Act.put, List.setIfInBounds_toArray, List.set_cons_zero, List.set_cons_succ])))
                            refine Txt.tl_nil ?_
                            go_wp2
                            go_roundw
                            case rel => exact ⟨i + 1, true, .inl (by omega), by go_num, rfl, HM.out, ⟨fun _ => HF.out, fun _ => rfl⟩⟩
                            case measure => simp [intOf]; omega
                          · have HF : Hid (NotP (endv s a4 0 = 0 ∧ IdL.Srt G ∧ IdL.Srt ((L.take (i + 2)).map (·.u)))) := fun h => absurd (HSm.out.1 h.2.2).2 (by rw [HCc.out]; exact hcn)
                            have hcn2 : 0 ≤ c := by omega
                            go_wp2
                            have HM : Hid _ := HM.out.drew
                            have c0 := HM.out.cell 1 rfl 0 (v := .slice (some ⟨g0, o0, none⟩) q lc) rfl
                            have RZ := (own_sl (show St.Own 37 66 de _ (.slice (some ⟨g0, o0, none⟩) q lc) L from HM.out.get 2 rfl)).2.lay.resolve_left (by omega) |> fun ⟨_, _, e, _, hr⟩ => (by cases e; exact hr i y Hy.out : World.rangeAt _ g0 (o0 + i * 66) (de y))
                            have RY : Hid _ := rng_u RZ
                            clear RZ
                            have RZ := (own_sl (show St.Own 37 66 de _ (.slice (some ⟨g0, o0, none⟩) q lc) L from HM.out.get 2 rfl)).2.lay.resolve_left (by omega) |> fun ⟨_, _, e, _, hr⟩ => (by cases e; exact hr (i + 1) d Hd.out : World.rangeAt _ g0 (o0 + (i + 1) * 66) (de d))
                            have RU : Hid _ := rng_u RZ
                            clear RZ
                            refine Txt.wp_region_text (fun _ => True) [0, 0, 0, 0, 0, 1, 0, 0, 0, 0, 1, 0, 0, 0, 1, 0, 0, 0, 1, 4, 0, 0, 0] (by kernel_rfl) (by kernel_rfl) trivial ?_
                            (repeat (first | ((with_reducible refine at_dt 138 ?_); refine Txt.tl_pure (v := .int .i64 (i : Int)) (by rfl) ?_ ?_; (focus (intro _; go_simp; try exact hwr)); simp only [Act.put, List.setIfInBounds_toArray, List.set_cons_zero, List.set_cons_succ]) | (refine Txt.tl_pure (v := ?_) (by rfl) ?_ ?_; rotate_left; (focus (intro _; go_simp; try with_reducible rfl)); simp only [Act.put, List.setIfInBounds_toArray, List.set_cons_zero, List.set_cons_succ]) | (refine Txt.tl_load (v := ?_) (by rfl) (by rfl) (by rfl) (by kernel_rfl) ?_ ?_; rotate_left; (focus assumption); simp only [Act.put, List.setIfInBounds_toArray, List.set_cons_zero, List.set_cons_succ]) | (refine Txt.tl_rowN (n := 32) (ty := 35) (by rfl) (by rfl) (by rfl) RY.out (by kernel_rfl) (by rw [List.length_map]; exact HYl.out) ?_; simp only [Act.put, List.setIfInBounds_toArray, List.set_cons_zero, List.set_cons_succ]) | (refine Txt.tl_rowN (n := 32) (ty := 35) (by rfl) (by rfl) (by rfl) RU.out (by kernel_rfl) (by rw [List.length_map]; exact HU.out) ?_; simp only [Act.put, List.setIfInBounds_toArray, List.set_cons_zero, List.set_cons_succ])))
                            refine Txt.tl_call Try.func54 (by kernel_rfl) (by kernel_rfl) (by rfl) (by rfl) (by rfl) (HC.out _) ?_
                            rintro e w9 ⟨rfl, k9⟩
                            have HM : Hid _ := HM.out.calm k9
                            clear k9 c0
                            refine ⟨_, rfl, trivial, ?_⟩
                            simp only [Act.put, List.setIfInBounds_toArray, List.set_cons_zero, List.set_cons_succ]
                            (repeat (first | (refine Txt.tl_pure (v := ?_) (by rfl) ?_ ?_; rotate_left; (focus (intro _; go_simp; try with_reducible rfl)); simp only [Act.put, List.setIfInBounds_toArray, List.set_cons_zero, List.set_cons_succ]) | (refine Txt.tl_skip (by rfl) trivial ?_; simp only [Act.put, List.setIfInBounds_toArray, List.set_cons_zero, List.set_cons_succ])))
                            refine Txt.tl_nil ?_
                            go_wp2
                            go_roundw
                            case rel => exact ⟨i + 1, false, .inl (by omega), by go_num, by (first | rfl | rw [decide_eq_false (by omega)]), HM.out, ⟨fun h => (by cases h), fun h => absurd h (show ¬ _ from HF.out)⟩⟩
                            case measure => simp [intOf]; omega
                      · have hlt5 : ¬ ((i : Int) + 1 < (q : Int)) := by omega
                        have HTk2 : Hid (L.take (i + 1) = L) := List.take_of_length_le (by rw [Hq.out]; omega)
                        rw [HTk2.out] at HOk
                        cases ok with
                        | false =>
                          go_wp2
                          go_ret2
                          exact ⟨L, G, a4, 0, 4, _, rfl, HRA.out, .inr ⟨rfl, .inr ⟨bad_none.2 HCa.out, .inr ⟨rfl, fun hf => by have := HOk.out.2 ⟨hf.1, hf.2.2, hf.2.1⟩; cases this⟩⟩⟩, HM.out.keep, fun _ => rfl, fun h => (by cases h)⟩
                        | true =>
                          have HFi : Hid (Fine s L G a4) := ⟨(HOk.out.1 rfl).1, (HOk.out.1 rfl).2.2, (HOk.out.1 rfl).2.1⟩
                          go_wp2
                          go_ret2
                          exact ⟨L, G, a4, 0, 0, _, rfl, HRA.out, .inr ⟨rfl, .inr ⟨bad_none.2 HCa.out, .inl ⟨rfl, HFi.out⟩⟩⟩, HM.out.keep, fun h => absurd rfl h, fun _ => ⟨bx, _, _, rfl, packX HM.out⟩⟩
                  · have Hev : Hid (endv s a4 0 = 4) := he
                    have HOk : Hid (false = true ↔ (endv s a4 0 = 0 ∧ IdL.Srt G)) := ⟨fun h => (by cases h), fun h => (by rw [he] at h; cases h.1)⟩
                    clear he
                    go_wp2_with (first | (go_at_call 93; refine (M.xend HM.out 0 rfl Hev.out).mono ?_; rintro e w7 ⟨rfl, h7⟩; replace h7 := h7.symm; subst h7))
                    go_loopw [14, 13] (fun s14 s13 wr => ∃ (i : Nat) (ok : Bool), (i + 1 ≤ q ∨ i = 0) ∧ s14 = .int .i64 ((i : Int) + 1) ∧ s13 = .bool ok ∧ M (fun _ => False) w wr [xr rb s a4 0, blk bx (xsc (.slice la q lc) (.slice ga g gc)), rD (.slice la q lc) L, ids (.slice ga g gc) G] ∧ (ok = true ↔ (endv s a4 0 = 0 ∧ IdL.Srt G ∧ IdL.Srt ((L.take (i + 1)).map (·.u))))) (fun s14 _ _ => q - (intOf s14).toNat)
                    case atStart => exact ⟨0, false, .inr rfl, by simp, rfl, HM.out, ⟨fun h => ⟨(HOk.out.1 h).1, (HOk.out.1 h).2, srt_one L⟩, fun h => HOk.out.2 ⟨h.1, h.2.1⟩⟩⟩
                    case round =>
                      clear HM c0 c1
                      obtain ⟨i, ok, hi4, rfl, rfl, hM, hok⟩ := hrel
                      have HM : Hid (M (fun _ => False) w wr [xr rb s a4 0, blk bx (xsc (.slice la q lc) (.slice ga g gc)), rD (.slice la q lc) L, ids (.slice ga g gc) G]) := hM
                      have HOk : Hid (ok = true ↔ (endv s a4 0 = 0 ∧ IdL.Srt G ∧ IdL.Srt ((L.take (i + 1)).map (·.u)))) := hok
                      clear hM hok
                      have c0 := HM.out.cell 1 rfl 0 (v := .slice la q lc) rfl
                      by_cases hlt4 : i + 1 < q
                      · obtain ⟨y, hy⟩ : ∃ y, L[i]? = some y := ⟨_, List.getElem?_eq_getElem (by rw [Hq.out]; omega)⟩
                        obtain ⟨d, hd⟩ : ∃ d, L[i + 1]? = some d := ⟨_, List.getElem?_eq_getElem (by rw [Hq.out]; exact hlt4)⟩
                        have HSm : Hid _ := srt_more hy hd
                        have Hy : Hid (L[i]? = some y) := hy
                        have Hd : Hid (L[i + 1]? = some d) := hd
                        have HYl : Hid (y.u.length = 32) := y.hu
                        have HU : Hid (d.u.length = 32) := d.hu
                        obtain ⟨g0, o0, e0, _, _⟩ := (own_sl (show St.Own 37 66 de wr (.slice la q lc) L from HM.out.get 2 rfl)).2.lay.resolve_left (by omega)
                        subst e0
                        have hlt5 : (i : Int) + 1 < (q : Int) := by omega
                        have hiq : i < q := by omega
                        have h0i : (0 : Int) ≤ (i : Int) + 1 := by omega
                        have hti : ((i : Int) + 1).toNat = i + 1 := by omega
                        have hwr : IntKind.i64.wrap (i : Int) = (i : Int) := by rw [IntKind.wrap_i64]; omega
                        obtain ⟨c, hc⟩ : ∃ c, IdL.cmpL y.u d.u = c := ⟨_, rfl⟩
                        have HCc : Hid (IdL.cmpL y.u d.u = c) := hc
                        have HC : Hid (∀ w, Calls Try.prog 54 #[idv y.u, idv d.u] w fun e w' => e = .returned (.int .i64 c) ∧ Keep (fun _ => False) w w') := fun w => by
                          have := xcompare_any w y.u d.u y.hu d.hu
                          rwa [hc] at this
                        clear hy hd hc
                        cases ok with
                        | false =>
                          go_wp2
                          have HM : Hid _ := HM.out.drew
                          refine Txt.wp_region_text (fun _ => True) [0, 0, 0, 0, 0, 1, 0, 0, 0, 0, 1, 0, 0, 0, 1, 0, 0, 0, 1, 4, 0, 0, 0] (by kernel_rfl) (by kernel_rfl) trivial ?_
                          (repeat (first | (refine Txt.tl_pure (v := ?_) (by rfl) ?_ ?_; rotate_left; (focus (intro _; go_simp; try with_reducible rfl)); simp only [Act.put, List.setIfInBounds_toArray, List.set_cons_zero, List.set_cons_succ]) | (refine Txt.tl_skip (by rfl) trivial ?_; simp only [Act.put, List.setIfInBounds_toArray, List.set_cons_zero, List.set_cons_succ])))
                          refine Txt.tl_nil ?_
                          go_wp2
                          go_roundw
                          case rel => exact ⟨i + 1, false, .inl (by omega), by go_num, rfl, HM.out, ⟨fun h => (by cases h), fun h => HOk.out.2 ⟨h.1, h.2.1, (HSm.out.1 h.2.2).1⟩⟩⟩
                          case measure => simp [intOf]; omega
                        | true =>
                          by_cases hcn : c < 0
                          · have HF : Hid (endv s a4 0 = 0 ∧ IdL.Srt G ∧ IdL.Srt ((L.take (i + 2)).map (·.u))) := ⟨(HOk.out.1 rfl).1, (HOk.out.1 rfl).2.1, HSm.out.2 ⟨(HOk.out.1 rfl).2.2, by rw [HCc.out]; exact hcn⟩⟩
                            go_wp2
                            have HM : Hid _ := HM.out.drew
                            have c0 := HM.out.cell 1 rfl 0 (v := .slice (some ⟨g0, o0, none⟩) q lc) rfl
                            have RZ := (own_sl (show St.Own 37 66 de _ (.slice (some ⟨g0, o0, none⟩) q lc) L from HM.out.get 2 rfl)).2.lay.resolve_left (by omega) |> fun ⟨_, _, e, _, hr⟩ => (by cases e; exact hr i y Hy.out : World.rangeAt _ g0 (o0 + i * 66) (de y))
                            have RY : Hid _ := rng_u RZ
                            clear RZ
                            have RZ := (own_sl (show St.Own 37 66 de _ (.slice (some ⟨g0, o0, none⟩) q lc) L from HM.out.get 2 rfl)).2.lay.resolve_left (by omega) |> fun ⟨_, _, e, _, hr⟩ => (by cases e; exact hr (i + 1) d Hd.out : World.rangeAt _ g0 (o0 + (i + 1) * 66) (de d))
                            have RU : Hid _ := rng_u RZ
                            clear RZ
                            refine Txt.wp_region_text (fun _ => True) [0, 0, 0, 0, 0, 1, 0, 0, 0, 0, 1, 0, 0, 0, 1, 0, 0, 0, 1, 4, 0, 0, 0] (by kernel_rfl) (by kernel_rfl) trivial ?_
                            (repeat (first | ((with_reducible refine at_dt 138 ?_); refine Txt.tl_pure (v := .int .i64 (i : Int)) (by rfl) ?_ ?_; (focus (intro _; go_simp; try exact hwr)); simp only [Act.put, List.setIfInBounds_toArray, List.set_cons_zero, List.set_cons_succ]) | (refine Txt.tl_pure (v := ?_) (by rfl) ?_ ?_; rotate_left; (focus (intro _; go_simp; try with_reducible rfl)); simp only [Act.put, List.setIfInBounds_toArray, List.set_cons_zero, List.set_cons_succ]) | (refine Txt.tl_load (v := ?_) (by rfl) (by rfl) (by rfl) (by kernel_rfl) ?_ ?_; rotate_left; (focus assumption); simp only [Act.put, List.setIfInBounds_toArray, List.set_cons_zero, List.set_cons_succ]) | (refine Txt.tl_rowN (n := 32) (ty := 35) (by rfl) (by rfl) (by rfl) RY.out (by kernel_rfl) (by rw [List.length_map]; exact HYl.out) ?_; simp only [Act.put, List.setIfInBounds_toArray, List.set_cons_zero, List.set_cons_succ]) | (refine Txt.tl_rowN (n := 32) (ty := 35) (by rfl) (by rfl) (by rfl) RU.out (by kernel_rfl) (by rw [List.length_map]; exact HU.out) ?_; simp only [Act.put, List.setIfInBounds_toArray, List.set_cons_zero, List.set_cons_succ])))
                            refine Txt.tl_call Try.func54 (by kernel_rfl) (by kernel_rfl) (by rfl) (by rfl) (by rfl) (HC.out _) ?_
                            rintro e w9 ⟨rfl, k9⟩
                            have HM : Hid _ := HM.out.calm k9
                            clear k9 c0
                            refine ⟨_, rfl, trivial, ?_⟩
                            simp only [Act.put, List.setIfInBounds_toArray, List.set_cons_zero, List.set_cons_succ]
                            (repeat (first | (refine Txt.tl_pure (v := ?_) (by rfl) ?_ ?_; rotate_left; (focus (intro _; go_simp; try with_reducible rfl)); simp only [Act.put, List.setIfInBounds_toArray, List.set_cons_zero, List.set_cons_succ]) | (refine Txt.tl_skip (by rfl) trivial ?_; simp only [Act.put, List.setIfInBounds_toArray, List.set_cons_zero, List.set_cons_succ])))
                            refine Txt.tl_nil ?_
                            go_wp2
                            go_roundw
                            case rel => exact ⟨i + 1, true, .inl (by omega), by go_num, rfl, HM.out, ⟨fun _ => HF.out, fun _ => rfl⟩⟩
                            case measure => simp [intOf]; omega
                          · have HF : Hid (NotP (endv s a4 0 = 0 ∧ IdL.Srt G ∧ IdL.Srt ((L.take (i + 2)).map (·.u)))) := fun h => absurd (HSm.out.1 h.2.2).2 (by rw [HCc.out]; exact hcn)
                            have hcn2 : 0 ≤ c := by omega
                            go_wp2
                            have HM : Hid _ := HM.out.drew
                            have c0 := HM.out.cell 1 rfl 0 (v := .slice (some ⟨g0, o0, none⟩) q lc) rfl
                            have RZ := (own_sl (show St.Own 37 66 de _ (.slice (some ⟨g0, o0, none⟩) q lc) L from HM.out.get 2 rfl)).2.lay.resolve_left (by omega) |> fun ⟨_, _, e, _, hr⟩ => (by cases e; exact hr i y Hy.out : World.rangeAt _ g0 (o0 + i * 66) (de y))
                            have RY : Hid _ := rng_u RZ
                            clear RZ
                            have RZ := (own_sl (show St.Own 37 66 de _ (.slice (some ⟨g0, o0, none⟩) q lc) L from HM.out.get 2 rfl)).2.lay.resolve_left (by omega) |> fun ⟨_, _, e, _, hr⟩ => (by cases e; exact hr (i + 1) d Hd.out : World.rangeAt _ g0 (o0 + (i + 1) * 66) (de d))
                            have RU : Hid _ := rng_u RZ
                            clear RZ
                            refine Txt.wp_region_text (fun _ => True) [0, 0, 0, 0, 0, 1, 0, 0, 0, 0, 1, 0, 0, 0, 1, 0, 0, 0, 1, 4, 0, 0, 0] (by kernel_rfl) (by kernel_rfl) trivial ?_
                            (repeat (first | ((with_reducible refine at_dt 138 ?_); refine Txt.tl_pure (v := .int .i64 (i : Int)) (by rfl) ?_ ?_; (focus (intro _; go_simp; try exact hwr)); simp only [Act.put, List.setIfInBounds_toArray, List.set_cons_zero, List.set_cons_succ]) | (refine Txt.tl_pure (v := ?_) (by rfl) ?_ ?_; rotate_left; (focus (intro _; go_simp; try with_reducible rfl)); simp only [Act.put, List.setIfInBounds_toArray, List.set_cons_zero, List.set_cons_succ]) | (refine Txt.tl_load (v := ?_) (by rfl) (by rfl) (by rfl) (by kernel_rfl) ?_ ?_; rotate_left; (focus assumption); simp only [Act.put, List.setIfInBounds_toArray, List.set_cons_zero, List.set_cons_succ]) | (refine Txt.tl_rowN (n := 32) (ty := 35) (by rfl) (by rfl) (by rfl) RY.out (by kernel_rfl) (by rw [List.length_map]; exact HYl.out) ?_; simp only [Act.put, List.setIfInBounds_toArray, List.set_cons_zero, List.set_cons_succ]) | (refine Txt.tl_rowN (n := 32) (ty := 35) (by rfl) (by rfl) (by rfl) RU.out (by kernel_rfl) (by rw [List.length_map]; exact HU.out) ?_; simp only [Act.put, List.setIfInBounds_toArray, List.set_cons_zero, List.set_cons_succ])))
                            refine Txt.tl_call Try.func54 (by kernel_rfl) (by kernel_rfl) (by rfl) (by rfl) (by rfl) (HC.out _) ?_
                            rintro e w9 ⟨rfl, k9⟩
                            have HM : Hid _ := HM.out.calm k9
                            clear k9 c0
                            refine ⟨_, rfl, trivial, ?_⟩
                            simp only [Act.put, List.setIfInBounds_toArray, List.set_cons_zero, List.set_cons_succ]
                            (repeat (first | (refine Txt.tl_pure (v := ?_) (by rfl) ?_ ?_; rotate_left; (focus (intro _; go_simp; try with_reducible rfl)); simp only [Act.put, List.setIfInBounds_toArray, List.set_cons_zero, List.set_cons_succ]) | (refine Txt.tl_skip (by rfl) trivial ?_; simp only [Act.put, List.setIfInBounds_toArray, List.set_cons_zero, List.set_cons_succ])))
                            refine Txt.tl_nil ?_
                            go_wp2
                            go_roundw
                            case rel => exact ⟨i + 1, false, .inl (by omega), by go_num, by (first | rfl | rw [decide_eq_false (by omega)]), HM.out, ⟨fun h => (by cases h), fun h => absurd h (show ¬ _ from HF.out)⟩⟩
                            case measure => simp [intOf]; omega
                      · have hlt5 : ¬ ((i : Int) + 1 < (q : Int)) := by omega
                        have HTk2 : Hid (L.take (i + 1) = L) := List.take_of_length_le (by rw [Hq.out]; omega)
                        rw [HTk2.out] at HOk
                        cases ok with
                        | false =>
                          go_wp2
                          go_ret2
                          exact ⟨L, G, a4, 0, 4, _, rfl, HRA.out, .inr ⟨rfl, .inr ⟨bad_none.2 HCa.out, .inr ⟨rfl, fun hf => by have := HOk.out.2 ⟨hf.1, hf.2.2, hf.2.1⟩; cases this⟩⟩⟩, HM.out.keep, fun _ => rfl, fun h => (by cases h)⟩
                        | true =>
                          have HFi : Hid (Fine s L G a4) := ⟨(HOk.out.1 rfl).1, (HOk.out.1 rfl).2.2, (HOk.out.1 rfl).2.1⟩
                          go_wp2
                          go_ret2
                          exact ⟨L, G, a4, 0, 0, _, rfl, HRA.out, .inr ⟨rfl, .inr ⟨bad_none.2 HCa.out, .inl ⟨rfl, HFi.out⟩⟩⟩, HM.out.keep, fun h => absurd rfl h, fun _ => ⟨bx, _, _, rfl, packX HM.out⟩⟩
            · by_cases hlt2 : j < m
              · have HT2 : Hid (Til (rdIds s a3 b3) m j) := ⟨hj, HG2.out, .inr (by rw [HR2.out]; exact hb4)⟩
                have HRA : Hid (RdA s L G a4 bad4) := ⟨_, _, _, _, _, _, _, _, _, _, H1.out, HTl.out, HR.out, Q6.out, HT2.out, HR2.out⟩
                clear hc2
                have H4 : Hid (¬ bad4 = 0) := hb4
                go_wp2
                have HM : Hid _ := HM.out.drew
                have ce := (M.xcells HM.out 0 rfl).2
                refine Txt.wp_region_text (fun _ => True) [0, 0, 0, 1, 0, 0] (by kernel_rfl) (by kernel_rfl) trivial ?_
                (repeat (first | (refine Txt.tl_pure (v := ?_) (by rfl) ?_ ?_; rotate_left; (focus (intro _; go_simp; try with_reducible rfl)); simp only [Act.put, List.setIfInBounds_toArray, List.set_cons_zero, List.set_cons_succ]) | (refine Txt.tl_load (v := .int .i64 bad4) (ty := 3) (by rfl) (by rfl) (by rfl) (by kernel_rfl) ce ?_; simp only [Act.put, List.setIfInBounds_toArray, List.set_cons_zero, List.set_cons_succ])))
                refine Txt.tl_nil ?_
                go_wp2
                go_ret2
                exact ⟨L, G, a4, bad4, bad4, _, rfl, HRA.out, .inl ⟨H4.out, rfl⟩, HM.out.keep, fun _ => rfl, fun h => absurd h H4.out⟩
              · obtain rfl : m = j := by omega
                have HT2 : Hid (Til (rdIds s a3 b3) m m) := ⟨Nat.le_refl _, HG2.out, .inl rfl⟩
                have HRA : Hid (RdA s L G a4 bad4) := ⟨_, _, _, _, _, _, _, _, _, _, H1.out, HTl.out, HR.out, Q6.out, HT2.out, HR2.out⟩
                clear hc2 hlt2
                have H4 : Hid (¬ bad4 = 0) := hb4
                go_wp2
                have HM : Hid _ := HM.out.drew
                have ce := (M.xcells HM.out 0 rfl).2
                refine Txt.wp_region_text (fun _ => True) [0, 0, 0, 1, 0, 0] (by kernel_rfl) (by kernel_rfl) trivial ?_
                (repeat (first | (refine Txt.tl_pure (v := ?_) (by rfl) ?_ ?_; rotate_left; (focus (intro _; go_simp; try with_reducible rfl)); simp only [Act.put, List.setIfInBounds_toArray, List.set_cons_zero, List.set_cons_succ]) | (refine Txt.tl_load (v := .int .i64 bad4) (ty := 3) (by rfl) (by rfl) (by rfl) (by kernel_rfl) ce ?_; simp only [Act.put, List.setIfInBounds_toArray, List.set_cons_zero, List.set_cons_succ])))
                refine Txt.tl_nil ?_
                go_wp2
                go_ret2
                exact ⟨L, G, a4, bad4, bad4, _, rfl, HRA.out, .inl ⟨H4.out, rfl⟩, HM.out.keep, fun _ => rfl, fun h => absurd h H4.out⟩
      · obtain rfl : n = k := by omega
        have HTl : Hid (Til (rdL s a1 b1) n n) := ⟨Nat.le_refl _, HG.out, .inl rfl⟩
        clear hcc hlt
        go_wp2_with (first | (go_at_call 89; refine (M.xnum HM.out 0 rfl Q6.out).mono ?_; rintro e w9 ⟨rfl, h9⟩; have HM : Hid (M (fun _ => False) w w9 [xr rb s a3 b3, blk bx (xsc v (.slice none 0 0)), rD v L, ids (.slice none 0 0) []]) := h9; clear h9 ce))
        have ha3 : a3 ≤ s.size := (show Ref.IsXa w9 rb s a3 b3 from HM.out.get 0 rfl).le
        go_loopw [10] (fun s10 wr => ∃ (j : Nat) (v2 : Value) (G : List Wd) (a : Nat) (bad : Int), j ≤ m ∧ s10 = .int .i64 j ∧ M (fun _ => False) w wr [xr rb s a bad, blk bx (xsc v v2), rD v L, ids v2 G] ∧ rdIds s a3 b3 j = (G, a, bad) ∧ (∀ i, i < j → (rdIds s a3 b3 i).2.2 = 0)) (fun s10 _ => m - (intOf s10).toNat)
        case atStart => exact ⟨0, _, [], a3, b3, Nat.zero_le _, by go_num, HM.out, rfl, fun j hj => absurd hj (Nat.not_lt_zero _)⟩
        case round =>
          clear HM
          obtain ⟨j, v2, G, a4, bad4, hj, rfl, hM, hR2, hg2⟩ := hrel
          have HM : Hid (M (fun _ => False) w wr [xr rb s a4 bad4, blk bx (xsc v v2), rD v L, ids v2 G]) := hM
          have HR2 : Hid (rdIds s a3 b3 j = (G, a4, bad4)) := hR2
          have HG2 : Hid (∀ i, i < j → (rdIds s a3 b3 i).2.2 = 0) := hg2
          have HGl : Hid (G.length = j) := by have := rdIds_len s a3 b3 j; rw [hR2] at this; exact this
          have ce := (M.xcells hM 0 rfl).2
          clear hM hR2 hg2
          by_cases hc2 : j < m ∧ bad4 = 0
          · obtain ⟨hlt2, rfl⟩ := hc2
            have HG3 : Hid (∀ i, i < j + 1 → (rdIds s a3 b3 i).2.2 = 0) := fun i hi => by
              rcases Nat.lt_or_ge i j with h1 | h1
              · exact HG2.out i h1
              · obtain rfl : i = j := by omega
                rw [HR2.out]
            have hjb : j ≤ 950 := by
              have := ids_bound (k := j) ha3 (fun i hi => HG3.out i (by omega))
              have := Hs.out
              omega
            obtain ⟨x, a', b', hx⟩ : ∃ x a' b', rraw s a4 0 32 = (x, a', b') := ⟨_, _, _, rfl⟩
            have HS2 : Hid (rdIds s a3 b3 (j + 1) = (G ++ [pad x.data.toList], a', b')) := rdIds_step HR2.out hx
            have Hx : Hid (rraw s a4 0 32 = (x, a', b')) := hx
            obtain ⟨u, hu⟩ : ∃ u, pad x.data.toList = u := ⟨_, rfl⟩
            have HUe : Hid (pad x.data.toList = u) := hu
            have HU : Hid (u.length = 32) := by show _ = _; rw [← hu]; exact pad_32 hx
            clear hx hu
            go_wp2
            have HM : Hid _ := HM.out.drew
            refine Txt.wp_region_text1 (fun w' => w'.cell? ⟨bx, 1, none⟩ = some v2) [0, 0, 0, 0, 2, 0, 4, 3, 4, 0, 0, 4] (by kernel_rfl) (by kernel_rfl) (HM.out.cell 1 rfl 1 rfl) ?_
            simp only [List.dropLast]
            (repeat (first | (refine Txt.tl_pure (v := ?_) (by rfl) ?_ ?_; rotate_left; (focus (intro _; go_simp; try with_reducible rfl)); simp only [Act.put, List.setIfInBounds_toArray, List.set_cons_zero, List.set_cons_succ])))
            refine Txt.tl_loadS (v := v2) (by rfl) (by rfl) (by rfl) (by kernel_rfl) (fun _ h => h) ?_
            simp only [Act.put, List.setIfInBounds_toArray, List.set_cons_zero, List.set_cons_succ]
            (repeat (first | (refine Txt.tl_pure (v := ?_) (by rfl) ?_ ?_; rotate_left; (focus (intro _; go_simp; try with_reducible rfl)); simp only [Act.put, List.setIfInBounds_toArray, List.set_cons_zero, List.set_cons_succ])))
            refine Txt.tl_call Try.func90 (by kernel_rfl) (by kernel_rfl) (by rfl) (by rfl) (by rfl) (M.xid HM.out 0 rfl Hx.out) ?_
            rw [HUe.out]
            rintro e w3 ⟨rfl, h3⟩
            have HM : Hid _ := h3
            clear h3
            refine ⟨_, rfl, HM.out.cell 1 rfl 1 rfl, ?_⟩
            simp only [Act.put, List.setIfInBounds_toArray, List.set_cons_zero, List.set_cons_succ]
            refine Txt.tl_alloc (by rfl) ?_
            refine Ids.wp_build rfl HU.out rfl ?_
            have HM : Hid _ := HM.out.alloc (.cells (u.map bv).toArray 35) rfl
            refine ⟨⟨Txt.Le.alloc _ _, HM.out.cell 1 rfl 1 rfl⟩, ?_⟩
            simp only [Act.put, List.setIfInBounds_toArray, List.set_cons_zero, List.set_cons_succ]
            refine Txt.tl_loud (by rfl) ?_
            refine Ids.wp_app1 rfl rfl (HM.out.get 3 rfl) rfl HU.out (HM.out.get 4 rfl) (by have := HGl.out; omega) ?_
            intro v8 w8 h8 k8 g8
            obtain ⟨ya, yn, yc, hy⟩ : ∃ a n c, v8 = .slice a n c := (by obtain ⟨a, c, e, _⟩ := h8.at; exact ⟨_, _, _, e⟩)
            have HM : Hid _ := HM.out.appI 3 rfl h8 k8 g8
            clear h8 k8 g8
            subst hy
            refine ⟨HM.out.cell 1 rfl 1 rfl, ?_⟩
            simp only [Act.put, List.setIfInBounds_toArray, List.set_cons_zero, List.set_cons_succ]
            (repeat (first | (refine Txt.tl_pure (v := ?_) (by rfl) ?_ ?_; rotate_left; (focus (intro _; go_simp; try with_reducible rfl)); simp only [Act.put, List.setIfInBounds_toArray, List.set_cons_zero, List.set_cons_succ])))
            refine Txt.tl_nil ?_
            refine Txt.tl_last (by rfl) (by rfl) ?_
            refine wp_storeI rfl rfl rfl rfl (HM.out.cell 1 rfl 1 rfl) (HM.out.free 1 rfl 1) ?_
            have HM : Hid _ := HM.out.setc 1 rfl 1 (.slice ya yn yc)
            go_wp2
            go_roundw
            case rel => exact ⟨j + 1, .slice ya yn yc, G ++ [u], a', b', by omega, by go_num, HM.out.take 4, by rw [HS2.out, HUe.out], HG3.out⟩
            case measure => simp [intOf]; omega
          · by_cases hb4 : bad4 = 0
            · subst hb4
              obtain rfl : m = j := by omega
              have HT2 : Hid (Til (rdIds s a3 b3) m m) := ⟨Nat.le_refl _, HG2.out, .inl rfl⟩
              have HRA : Hid (RdA s L G a4 0) := ⟨_, _, _, _, _, _, _, _, _, _, H1.out, HTl.out, HR.out, Q6.out, HT2.out, HR2.out⟩
              clear hc2
              obtain ⟨la, lc, el, _⟩ := (show St.Own 37 66 de wr v L from HM.out.get 2 rfl).any
              subst el
              obtain ⟨ga, gc, eg, _⟩ := (show Ids.Own wr v2 G from HM.out.get 3 rfl).at
              subst eg
              obtain ⟨q, hq⟩ : ∃ q, L.length = q := ⟨_, rfl⟩
              obtain ⟨g, hg⟩ : ∃ g, G.length = g := ⟨_, rfl⟩
              have Hq : Hid (L.length = q) := hq
              have Hg : Hid (G.length = g) := hg
              rw [hq, hg] at HM
              obtain ⟨hq5, hg9⟩ := HRA.out.bound Hs.out
              rw [hq] at hq5
              rw [hg] at hg9
              clear hq hg
              go_wp2
              go_loopw [11] (fun s11 wr => ∃ (i : Nat), i ≤ q ∧ s11 = .int .i64 i ∧ M (fun _ => False) w wr [xr rb s a4 0, blk bx (xsc (.slice la q lc) (.slice ga g gc)), rD (.slice la q lc) L, ids (.slice ga g gc) G] ∧ (∀ d ∈ L.take i, chk d.u d.x = 0)) (fun s11 _ => q - (intOf s11).toNat)
              case atStart => exact ⟨0, Nat.zero_le _, by go_num, HM.out, fun d hd => by cases hd⟩
              case round =>
                clear HM ce
                obtain ⟨i, hi, rfl, hM, hck⟩ := hrel
                have HM : Hid (M (fun _ => False) w wr [xr rb s a4 0, blk bx (xsc (.slice la q lc) (.slice ga g gc)), rD (.slice la q lc) L, ids (.slice ga g gc) G]) := hM
                have HCk : Hid (∀ d ∈ L.take i, chk d.u d.x = 0) := hck
                clear hM hck
                have c0 := HM.out.cell 1 rfl 0 (v := .slice la q lc) rfl
                have c1 := HM.out.cell 1 rfl 1 (v := .slice ga g gc) rfl
                by_cases hlt3 : i < q
                · obtain ⟨d, hd⟩ : ∃ d, L[i]? = some d := ⟨_, List.getElem?_eq_getElem (by rw [Hq.out]; exact hlt3)⟩
                  have Hd : Hid (L[i]? = some d) := hd
                  obtain ⟨g0, o0, e0, _, hr0⟩ := (own_sl (show St.Own 37 66 de wr (.slice la q lc) L from HM.out.get 2 rfl)).2.lay.resolve_left (by omega)
                  subst e0
                  have Rd : Hid (wr.rangeAt g0 (o0 + i * 66) (de d)) := hr0 i d hd
                  have HDl : Hid ((de d).length = 66) := de_len d
                  obtain ⟨tc, htc⟩ : ∃ t, chk d.u d.x = t := ⟨_, rfl⟩
                  have HT : Hid (chk d.u d.x = tc) := htc
                  have HXk : Hid (∀ w, Calls Try.prog 92 #[.agg (de d).toArray] w fun e w' => e = .returned (.int .i64 tc) ∧ Keep (fun _ => False) w w') := fun w => by
                    have := xcheck_any w d (Nat.le_trans (HRA.out.vs d (List.mem_of_getElem? hd)) Hsm.out)
                    rwa [htc] at this
                  clear hr0 hd htc
                  by_cases h0 : tc = 0
                  · subst h0
                    go_wp2_with (first | ((with_reducible refine at_load 37 ?_); refine St.wl_load tyD rfl rfl rfl Rd.out HDl.out ?_; simp only [Act.put, List.setIfInBounds_toArray, List.set_cons_zero, List.set_cons_succ]) | (go_at_call 92; refine (HXk.out _).mono ?_; rintro e w6 ⟨rfl, k6⟩; have HM : Hid _ := HM.out.calm k6; clear k6))
                    go_roundw
                    case rel => exact ⟨i + 1, by omega, by go_num, HM.out, take_ck Hd.out HCk.out HT.out⟩
                    case measure => simp [intOf]; omega
                  · have hbf : (tc != 0) = true := by simpa using h0
                    have H0 : Hid (tc ≠ 0) := h0
                    go_wp2_with (first | ((with_reducible refine at_load 37 ?_); refine St.wl_load tyD rfl rfl rfl Rd.out HDl.out ?_; simp only [Act.put, List.setIfInBounds_toArray, List.set_cons_zero, List.set_cons_succ]) | (go_at_call 92; refine (HXk.out _).mono ?_; rintro e w6 ⟨rfl, k6⟩; have HM : Hid _ := HM.out.calm k6; clear k6))
                    go_ret2
                    exact ⟨L, G, a4, 0, tc, _, rfl, HRA.out, .inr ⟨rfl, .inl ⟨d, bad_at Hd.out HCk.out (by rw [HT.out]; exact H0.out), HT.out.symm⟩⟩, HM.out.keep, fun _ => rfl, fun h => absurd h H0.out⟩
                · obtain rfl : q = i := by omega
                  have HTk : Hid (L.take q = L) := List.take_of_length_le (by rw [Hq.out]; exact Nat.le_refl _)
                  have HCa : Hid (∀ d ∈ L, chk d.u d.x = 0) := fun d hd => HCk.out d (by rw [HTk.out]; exact hd)
                  rcases endv_zf s a4 with he | he
                  · have Hev : Hid (endv s a4 0 = 0) := he
                    obtain ⟨r, hr⟩ : ∃ r, decide (G = IdL.setL G) = r := ⟨_, rfl⟩
                    have HIs : Hid (∀ w1, At w1 ga g G → Calls Try.prog 94 #[.slice ga g gc] w1 fun e w' => e = .returned (.bool r) ∧ Keep (fun _ => False) w1 w') := fun w1 h1 => by
                      have := xis_any w1 ga g gc G h1 (by omega)
                      rwa [hr] at this
                    have HOk : Hid (r = true ↔ (endv s a4 0 = 0 ∧ IdL.Srt G)) := by
                      show _ ↔ _
                      rw [← hr, decide_eq_true_iff, ← IdL.srt_iff]
                      exact ⟨fun h => ⟨he, h.symm⟩, fun h => h.2.symm⟩
                    clear he hr
                    go_wp2_with (first | (go_at_call 93; refine (M.xend HM.out 0 rfl Hev.out).mono ?_; rintro e w7 ⟨rfl, h7⟩; replace h7 := h7.symm; subst h7) | (go_at_call 94; refine (HIs.out _ (own_idat (HM.out.get 3 rfl))).mono ?_; rintro e w8 ⟨rfl, k8⟩; have HM : Hid _ := HM.out.calm k8; clear k8))
                    go_loopw [14, 13] (fun s14 s13 wr => ∃ (i : Nat) (ok : Bool), (i + 1 ≤ q ∨ i = 0) ∧ s14 = .int .i64 ((i : Int) + 1) ∧ s13 = .bool ok ∧ M (fun _ => False) w wr [xr rb s a4 0, blk bx (xsc (.slice la q lc) (.slice ga g gc)), rD (.slice la q lc) L, ids (.slice ga g gc) G] ∧ (ok = true ↔ (endv s a4 0 = 0 ∧ IdL.Srt G ∧ IdL.Srt ((L.take (i + 1)).map (·.u))))) (fun s14 _ _ => q - (intOf s14).toNat)
                    case atStart => exact ⟨0, r, .inr rfl, by simp, rfl, HM.out, ⟨fun h => ⟨(HOk.out.1 h).1, (HOk.out.1 h).2, srt_one L⟩, fun h => HOk.out.2 ⟨h.1, h.2.1⟩⟩⟩
                    case round =>
                      clear HM c0 c1
                      obtain ⟨i, ok, hi4, rfl, rfl, hM, hok⟩ := hrel
                      have HM : Hid (M (fun _ => False) w wr [xr rb s a4 0, blk bx (xsc (.slice la q lc) (.slice ga g gc)), rD (.slice la q lc) L, ids (.slice ga g gc) G]) := hM
                      have HOk : Hid (ok = true ↔ (endv s a4 0 = 0 ∧ IdL.Srt G ∧ IdL.Srt ((L.take (i + 1)).map (·.u)))) := hok
                      clear hM hok
                      have c0 := HM.out.cell 1 rfl 0 (v := .slice la q lc) rfl
                      by_cases hlt4 : i + 1 < q
                      · obtain ⟨y, hy⟩ : ∃ y, L[i]? = some y := ⟨_, List.getElem?_eq_getElem (by rw [Hq.out]; omega)⟩
                        obtain ⟨d, hd⟩ : ∃ d, L[i + 1]? = some d := ⟨_, List.getElem?_eq_getElem (by rw [Hq.out]; exact hlt4)⟩
                        have HSm : Hid _ := srt_more hy hd
                        have Hy : Hid (L[i]? = some y) := hy
                        have Hd : Hid (L[i + 1]? = some d) := hd
                        have HYl : Hid (y.u.length = 32) := y.hu
                        have HU : Hid (d.u.length = 32) := d.hu
                        obtain ⟨g0, o0, e0, _, _⟩ := (own_sl (show St.Own 37 66 de wr (.slice la q lc) L from HM.out.get 2 rfl)).2.lay.resolve_left (by omega)
                        subst e0
                        have hlt5 : (i : Int) + 1 < (q : Int) := by omega
                        have hiq : i < q := by omega
                        have h0i : (0 : Int) ≤ (i : Int) + 1 := by omega
                        have hti : ((i : Int) + 1).toNat = i + 1 := by omega
                        have hwr : IntKind.i64.wrap (i : Int) = (i : Int) := by rw [IntKind.wrap_i64]; omega
                        obtain ⟨c, hc⟩ : ∃ c, IdL.cmpL y.u d.u = c := ⟨_, rfl⟩
                        have HCc : Hid (IdL.cmpL y.u d.u = c) := hc
                        have HC : Hid (∀ w, Calls Try.prog 54 #[idv y.u, idv d.u] w fun e w' => e = .returned (.int .i64 c) ∧ Keep (fun _ => False) w w') := fun w => by
                          have := xcompare_any w y.u d.u y.hu d.hu
                          rwa [hc] at this
                        clear hy hd hc
                        cases ok with
                        | false =>
                          go_wp2
                          have HM : Hid _ := HM.out.drew
                          refine Txt.wp_region_text (fun _ => True) [0, 0, 0, 0, 0, 1, 0, 0, 0, 0, 1, 0, 0, 0, 1, 0, 0, 0, 1, 4, 0, 0, 0] (by kernel_rfl) (by kernel_rfl) trivial ?_
                          (repeat (first | (refine Txt.tl_pure (v := ?_) (by rfl) ?_ ?_; rotate_left; (focus (intro _; go_simp; try with_reducible rfl)); simp only [Act.put, List.setIfInBounds_toArray, List.set_cons_zero, List.set_cons_succ]) | (refine Txt.tl_skip (by rfl) trivial ?_; simp only [Act.put, List.setIfInBounds_toArray, List.set_cons_zero, List.set_cons_succ])))
                          refine Txt.tl_nil ?_
                          go_wp2
                          go_roundw
                          case rel => exact ⟨i + 1, false, .inl (by omega), by go_num, rfl, HM.out, ⟨fun h => (by cases h), fun h => HOk.out.2 ⟨h.1, h.2.1, (HSm.out.1 h.2.2).1⟩⟩⟩
                          case measure => simp [intOf]; omega
                        | true =>
                          by_cases hcn : c < 0
                          · have HF : Hid (endv s a4 0 = 0 ∧ IdL.Srt G ∧ IdL.Srt ((L.take (i + 2)).map (·.u))) := ⟨(HOk.out.1 rfl).1, (HOk.out.1 rfl).2.1, HSm.out.2 ⟨(HOk.out.1 rfl).2.2, by rw [HCc.out]; exact hcn⟩⟩
                            go_wp2
                            have HM : Hid _ := HM.out.drew
                            have c0 := HM.out.cell 1 rfl 0 (v := .slice (some ⟨g0, o0, none⟩) q lc) rfl
                            have RZ := (own_sl (show St.Own 37 66 de _ (.slice (some ⟨g0, o0, none⟩) q lc) L from HM.out.get 2 rfl)).2.lay.resolve_left (by omega) |> fun ⟨_, _, e, _, hr⟩ => (by cases e; exact hr i y Hy.out : World.rangeAt _ g0 (o0 + i * 66) (de y))
                            have RY : Hid _ := rng_u RZ
                            clear RZ
                            have RZ := (own_sl (show St.Own 37 66 de _ (.slice (some ⟨g0, o0, none⟩) q lc) L from HM.out.get 2 rfl)).2.lay.resolve_left (by omega) |> fun ⟨_, _, e, _, hr⟩ => (by cases e; exact hr (i + 1) d Hd.out : World.rangeAt _ g0 (o0 + (i + 1) * 66) (de d))
                            have RU : Hid _ := rng_u RZ
                            clear RZ
                            refine Txt.wp_region_text (fun _ => True) [0, 0, 0, 0, 0, 1, 0, 0, 0, 0, 1, 0, 0, 0, 1, 0, 0, 0, 1, 4, 0, 0, 0] (by kernel_rfl) (by kernel_rfl) trivial ?_
                            (repeat (first | ((with_reducible refine at_dt 138 ?_); refine Txt.tl_pure (v := .int .i64 (i : Int)) (by rfl) ?_ ?_; (focus (intro _; go_simp; try exact hwr)); simp only [Act.put, List.setIfInBounds_toArray, List.set_cons_zero, List.set_cons_succ]) | (refine Txt.tl_pure (v := ?_) (by rfl) ?_ ?_; rotate_left; (focus (intro _; go_simp; try with_reducible rfl)); simp only [Act.put, List.setIfInBounds_toArray, List.set_cons_zero, List.set_cons_succ]) | (refine Txt.tl_load (v := ?_) (by rfl) (by rfl) (by rfl) (by kernel_rfl) ?_ ?_; rotate_left; (focus assumption); simp only [Act.put, List.setIfInBounds_toArray, List.set_cons_zero, List.set_cons_succ]) | (refine Txt.tl_rowN (n := 32) (ty := 35) (by rfl) (by rfl) (by rfl) RY.out (by kernel_rfl) (by rw [List.length_map]; exact HYl.out) ?_; simp only [Act.put, List.setIfInBounds_toArray, List.set_cons_zero, List.set_cons_succ]) | (refine Txt.tl_rowN (n := 32) (ty := 35) (by rfl) (by rfl) (by rfl) RU.out (by kernel_rfl) (by rw [List.length_map]; exact HU.out) ?_; simp only [Act.put, List.setIfInBounds_toArray, List.set_cons_zero, List.set_cons_succ])))
                            refine Txt.tl_call Try.func54 (by kernel_rfl) (by kernel_rfl) (by rfl) (by rfl) (by rfl) (HC.out _) ?_
                            rintro e w9 ⟨rfl, k9⟩
                            have HM : Hid _ := HM.out.calm k9
                            clear k9 c0
                            refine ⟨_, rfl, trivial, ?_⟩
                            simp only [Act.put, List.setIfInBounds_toArray, List.set_cons_zero, List.set_cons_succ]
                            (repeat (first | (refine Txt.tl_pure (v := ?_) (by rfl) ?_ ?_; rotate_left; (focus (intro _; go_simp; try with_reducible rfl)); simp only [Act.put, List.setIfInBounds_toArray, List.set_cons_zero, List.set_cons_succ]) | (refine Txt.tl_skip (by rfl) trivial ?_; simp only [Act.put, List.setIfInBounds_toArray, List.set_cons_zero, List.set_cons_succ])))
                            refine Txt.tl_nil ?_
                            go_wp2
                            go_roundw
                            case rel => exact ⟨i + 1, true, .inl (by omega), by go_num, rfl, HM.out, ⟨fun _ => HF.out, fun _ => rfl⟩⟩
                            case measure => simp [intOf]; omega
                          · have HF : Hid (NotP (endv s a4 0 = 0 ∧ IdL.Srt G ∧ IdL.Srt ((L.take (i + 2)).map (·.u)))) := fun h => absurd (HSm.out.1 h.2.2).2 (by rw [HCc.out]; exact hcn)
                            have hcn2 : 0 ≤ c := by omega
                            go_wp2
                            have HM : Hid _ := HM.out.drew
                            have c0 := HM.out.cell 1 rfl 0 (v := .slice (some ⟨g0, o0, none⟩) q lc) rfl
                            have RZ := (own_sl (show St.Own 37 66 de _ (.slice (some ⟨g0, o0, none⟩) q lc) L from HM.out.get 2 rfl)).2.lay.resolve_left (by omega) |> fun ⟨_, _, e, _, hr⟩ => (by cases e; exact hr i y Hy.out : World.rangeAt _ g0 (o0 + i * 66) (de y))
                            have RY : Hid _ := rng_u RZ
                            clear RZ
                            have RZ := (own_sl (show St.Own 37 66 de _ (.slice (some ⟨g0, o0, none⟩) q lc) L from HM.out.get 2 rfl)).2.lay.resolve_left (by omega) |> fun ⟨_, _, e, _, hr⟩ => (by cases e; exact hr (i + 1) d Hd.out : World.rangeAt _ g0 (o0 + (i + 1) * 66) (de d))
                            have RU : Hid _ := rng_u RZ
                            clear RZ
                            refine Txt.wp_region_text (fun _ => True) [0, 0, 0, 0, 0, 1, 0, 0, 0, 0, 1, 0, 0, 0, 1, 0, 0, 0, 1, 4, 0, 0, 0] (by kernel_rfl) (by kernel_rfl) trivial ?_
                            (repeat (first | ((with_reducible refine at_dt 138 ?_); refine Txt.tl_pure (v := .int .i64 (i : Int)) (by rfl) ?_ ?_; (focus (intro _; go_simp; try exact hwr)); simp only [Act.put, List.setIfInBounds_toArray, List.set_cons_zero, List.set_cons_succ]) | (refine Txt.tl_pure (v := ?_) (by rfl) ?_ ?_; rotate_left; (focus (intro _; go_simp; try with_reducible rfl)); simp only [Act.put, List.setIfInBounds_toArray, List.set_cons_zero, List.set_cons_succ]) | (refine Txt.tl_load (v := ?_) (by rfl) (by rfl) (by rfl) (by kernel_rfl) ?_ ?_; rotate_left; (focus assumption); simp only [Act.put, List.setIfInBounds_toArray, List.set_cons_zero, List.set_cons_succ]) | (refine Txt.tl_rowN (n := 32) (ty := 35) (by rfl) (by rfl) (by rfl) RY.out (by kernel_rfl) (by rw [List.length_map]; exact HYl.out) ?_; simp only [Act.put, List.setIfInBounds_toArray, List.set_cons_zero, List.set_cons_succ]) | (refine Txt.tl_rowN (n := 32) (ty := 35) (by rfl) (by rfl) (by rfl) RU.out (by kernel_rfl) (by rw [List.length_map]; exact HU.out) ?_; simp only [Act.put, List.setIfInBounds_toArray, List.set_cons_zero, List.set_cons_succ])))
                            refine Txt.tl_call Try.func54 (by kernel_rfl) (by kernel_rfl) (by rfl) (by rfl) (by rfl) (HC.out _) ?_
                            rintro e w9 ⟨rfl, k9⟩
                            have HM : Hid _ := HM.out.calm k9
                            clear k9 c0
                            refine ⟨_, rfl, trivial, ?_⟩
                            simp only [Act.put, List.setIfInBounds_toArray, List.set_cons_zero, List.set_cons_succ]
                            (repeat (first | (refine Txt.tl_pure (v := ?_) (by rfl) ?_ ?_; rotate_left; (focus (intro _; go_simp; try with_reducible rfl)); simp only [Act.put, List.setIfInBounds_toArray, List.set_cons_zero, List.set_cons_succ]) | (refine Txt.tl_skip (by rfl) trivial ?_; simp only [Act.put, List.setIfInBounds_toArray, List.set_cons_zero, List.set_cons_succ])))
                            refine Txt.tl_nil ?_
                            go_wp2
                            go_roundw
                            case rel => exact ⟨i + 1, false, .inl (by omega), by go_num, by (first | rfl | rw [decide_eq_false (by omega)]), HM.out, ⟨fun h => (by cases h), fun h => absurd h (show ¬ _ from HF.out)⟩⟩
                            case measure => simp [intOf]; omega
                      · have hlt5 : ¬ ((i : Int) + 1 < (q : Int)) := by omega
                        have HTk2 : Hid (L.take (i + 1) = L) := List.take_of_length_le (by rw [Hq.out]; omega)
                        rw [HTk2.out] at HOk
                        cases ok with
                        | false =>
                          go_wp2
                          go_ret2
                          exact ⟨L, G, a4, 0, 4, _, rfl, HRA.out, .inr ⟨rfl, .inr ⟨bad_none.2 HCa.out, .inr ⟨rfl, fun hf => by have := HOk.out.2 ⟨hf.1, hf.2.2, hf.2.1⟩; cases this⟩⟩⟩, HM.out.keep, fun _ => rfl, fun h => (by cases h)⟩
                        | true =>
                          have HFi : Hid (Fine s L G a4) := ⟨(HOk.out.1 rfl).1, (HOk.out.1 rfl).2.2, (HOk.out.1 rfl).2.1⟩
                          go_wp2
                          go_ret2
                          exact ⟨L, G, a4, 0, 0, _, rfl, HRA.out, .inr ⟨rfl, .inr ⟨bad_none.2 HCa.out, .inl ⟨rfl, HFi.out⟩⟩⟩, HM.out.keep, fun h => absurd rfl h, fun _ => ⟨bx, _, _, rfl, packX HM.out⟩⟩
                  · have Hev : Hid (endv s a4 0 = 4) := he
                    have HOk : Hid (false = true ↔ (endv s a4 0 = 0 ∧ IdL.Srt G)) := ⟨fun h => (by cases h), fun h => (by rw [he] at h; cases h.1)⟩
                    clear he
                    go_wp2_with (first | (go_at_call 93; refine (M.xend HM.out 0 rfl Hev.out).mono ?_; rintro e w7 ⟨rfl, h7⟩; replace h7 := h7.symm; subst h7))
                    go_loopw [14, 13] (fun s14 s13 wr => ∃ (i : Nat) (ok : Bool), (i + 1 ≤ q ∨ i = 0) ∧ s14 = .int .i64 ((i : Int) + 1) ∧ s13 = .bool ok ∧ M (fun _ => False) w wr [xr rb s a4 0, blk bx (xsc (.slice la q lc) (.slice ga g gc)), rD (.slice la q lc) L, ids (.slice ga g gc) G] ∧ (ok = true ↔ (endv s a4 0 = 0 ∧ IdL.Srt G ∧ IdL.Srt ((L.take (i + 1)).map (·.u))))) (fun s14 _ _ => q - (intOf s14).toNat)
                    case atStart => exact ⟨0, false, .inr rfl, by simp, rfl, HM.out, ⟨fun h => ⟨(HOk.out.1 h).1, (HOk.out.1 h).2, srt_one L⟩, fun h => HOk.out.2 ⟨h.1, h.2.1⟩⟩⟩
                    case round =>
                      clear HM c0 c1
                      obtain ⟨i, ok, hi4, rfl, rfl, hM, hok⟩ := hrel
                      have HM : Hid (M (fun _ => False) w wr [xr rb s a4 0, blk bx (xsc (.slice la q lc) (.slice ga g gc)), rD (.slice la q lc) L, ids (.slice ga g gc) G]) := hM
                      have HOk : Hid (ok = true ↔ (endv s a4 0 = 0 ∧ IdL.Srt G ∧ IdL.Srt ((L.take (i + 1)).map (·.u)))) := hok
                      clear hM hok
                      have c0 := HM.out.cell 1 rfl 0 (v := .slice la q lc) rfl
                      by_cases hlt4 : i + 1 < q
                      · obtain ⟨y, hy⟩ : ∃ y, L[i]? = some y := ⟨_, List.getElem?_eq_getElem (by rw [Hq.out]; omega)⟩
                        obtain ⟨d, hd⟩ : ∃ d, L[i + 1]? = some d := ⟨_, List.getElem?_eq_getElem (by rw [Hq.out]; exact hlt4)⟩
                        have HSm : Hid _ := srt_more hy hd
                        have Hy : Hid (L[i]? = some y) := hy
                        have Hd : Hid (L[i + 1]? = some d) := hd
                        have HYl : Hid (y.u.length = 32) := y.hu
                        have HU : Hid (d.u.length = 32) := d.hu
                        obtain ⟨g0, o0, e0, _, _⟩ := (own_sl (show St.Own 37 66 de wr (.slice la q lc) L from HM.out.get 2 rfl)).2.lay.resolve_left (by omega)
                        subst e0
                        have hlt5 : (i : Int) + 1 < (q : Int) := by omega
                        have hiq : i < q := by omega
                        have h0i : (0 : Int) ≤ (i : Int) + 1 := by omega
                        have hti : ((i : Int) + 1).toNat = i + 1 := by omega
                        have hwr : IntKind.i64.wrap (i : Int) = (i : Int) := by rw [IntKind.wrap_i64]; omega
                        obtain ⟨c, hc⟩ : ∃ c, IdL.cmpL y.u d.u = c := ⟨_, rfl⟩
                        have HCc : Hid (IdL.cmpL y.u d.u = c) := hc
                        have HC : Hid (∀ w, Calls Try.prog 54 #[idv y.u, idv d.u] w fun e w' => e = .returned (.int .i64 c) ∧ Keep (fun _ => False) w w') := fun w => by
                          have := xcompare_any w y.u d.u y.hu d.hu
                          rwa [hc] at this
                        clear hy hd hc
                        cases ok with
                        | false =>
                          go_wp2
                          have HM : Hid _ := HM.out.drew
                          refine Txt.wp_region_text (fun _ => True) [0, 0, 0, 0, 0, 1, 0, 0, 0, 0, 1, 0, 0, 0, 1, 0, 0, 0, 1, 4, 0, 0, 0] (by kernel_rfl) (by kernel_rfl) trivial ?_
                          (repeat (first | (refine Txt.tl_pure (v := ?_) (by rfl) ?_ ?_; rotate_left; (focus (intro _; go_simp; try with_reducible rfl)); simp only [Act.put, List.setIfInBounds_toArray, List.set_cons_zero, List.set_cons_succ]) | (refine Txt.tl_skip (by rfl) trivial ?_; simp only [Act.put, List.setIfInBounds_toArray, List.set_cons_zero, List.set_cons_succ])))
                          refine Txt.tl_nil ?_
                          go_wp2
                          go_roundw
                          case rel => exact ⟨i + 1, false, .inl (by omega), by go_num, rfl, HM.out, ⟨fun h => (by cases h), fun h => HOk.out.2 ⟨h.1, h.2.1, (HSm.out.1 h.2.2).1⟩⟩⟩
                          case measure => simp [intOf]; omega
                        | true =>
                          by_cases hcn : c < 0
                          · have HF : Hid (endv s a4 0 = 0 ∧ IdL.Srt G ∧ IdL.Srt ((L.take (i + 2)).map (·.u))) := ⟨(HOk.out.1 rfl).1, (HOk.out.1 rfl).2.1, HSm.out.2 ⟨(HOk.out.1 rfl).2.2, by rw [HCc.out]; exact hcn⟩⟩
                            go_wp2
                            have HM : Hid _ := HM.out.drew
                            have c0 := HM.out.cell 1 rfl 0 (v := .slice (some ⟨g0, o0, none⟩) q lc) rfl
                            have RZ := (own_sl (show St.Own 37 66 de _ (.slice (some ⟨g0, o0, none⟩) q lc) L from HM.out.get 2 rfl)).2.lay.resolve_left (by omega) |> fun ⟨_, _, e, _, hr⟩ => (by cases e; exact hr i y Hy.out : World.rangeAt _ g0 (o0 + i * 66) (de y))
                            have RY : Hid _ := rng_u RZ
                            clear RZ
                            have RZ := (own_sl (show St.Own 37 66 de _ (.slice (some ⟨g0, o0, none⟩) q lc) L from HM.out.get 2 rfl)).2.lay.resolve_left (by omega) |> fun ⟨_, _, e, _, hr⟩ => (by cases e; exact hr (i + 1) d Hd.out : World.rangeAt _ g0 (o0 + (i + 1) * 66) (de d))
                            have RU : Hid _ := rng_u RZ
                            clear RZ
                            refine Txt.wp_region_text (fun _ => True) [0, 0, 0, 0, 0, 1, 0, 0, 0, 0, 1, 0, 0, 0, 1, 0, 0, 0, 1, 4, 0, 0, 0] (by kernel_rfl) (by kernel_rfl) trivial ?_
                            (repeat (first | ((with_reducible refine at_dt 138 ?_); refine Txt.tl_pure (v := .int .i64 (i : Int)) (by rfl) ?_ ?_; (focus (intro _; go_simp; try exact hwr)); simp only [Act.put, List.setIfInBounds_toArray, List.set_cons_zero, List.set_cons_succ]) | (refine Txt.tl_pure (v := ?_) (by rfl) ?_ ?_; rotate_left; (focus (intro _; go_simp; try with_reducible rfl)); simp only [Act.put, List.setIfInBounds_toArray, List.set_cons_zero, List.set_cons_succ]) | (refine Txt.tl_load (v := ?_) (by rfl) (by rfl) (by rfl) (by kernel_rfl) ?_ ?_; rotate_left; (focus assumption); simp only [Act.put, List.setIfInBounds_toArray, List.set_cons_zero, List.set_cons_succ]) | (refine Txt.tl_rowN (n := 32) (ty := 35) (by rfl) (by rfl) (by rfl) RY.out (by kernel_rfl) (by rw [List.length_map]; exact HYl.out) ?_; simp only [Act.put, List.setIfInBounds_toArray, List.set_cons_zero, List.set_cons_succ]) | (refine Txt.tl_rowN (n := 32) (ty := 35) (by rfl) (by rfl) (by rfl) RU.out (by kernel_rfl) (by rw [List.length_map]; exact HU.out) ?_; simp only [Act.put, List.setIfInBounds_toArray, List.set_cons_zero, List.set_cons_succ])))
                            refine Txt.tl_call Try.func54 (by kernel_rfl) (by kernel_rfl) (by rfl) (by rfl) (by rfl) (HC.out _) ?_
                            rintro e w9 ⟨rfl, k9⟩
                            have HM : Hid _ := HM.out.calm k9
                            clear k9 c0
                            refine ⟨_, rfl, trivial, ?_⟩
                            simp only [Act.put, List.setIfInBounds_toArray, List.set_cons_zero, List.set_cons_succ]
                            (repeat (first | (refine Txt.tl_pure (v := ?_) (by rfl) ?_ ?_; rotate_left; (focus (intro _; go_simp; try with_reducible rfl)); simp only [Act.put, List.setIfInBounds_toArray, List.set_cons_zero, List.set_cons_succ]) | (refine Txt.tl_skip (by rfl) trivial ?_; simp only [Act.put, List.setIfInBounds_toArray, List.set_cons_zero, List.set_cons_succ])))
                            refine Txt.tl_nil ?_
                            go_wp2
                            go_roundw
                            case rel => exact ⟨i + 1, true, .inl (by omega), by go_num, rfl, HM.out, ⟨fun _ => HF.out, fun _ => rfl⟩⟩
                            case measure => simp [intOf]; omega
                          · have HF : Hid (NotP (endv s a4 0 = 0 ∧ IdL.Srt G ∧ IdL.Srt ((L.take (i + 2)).map (·.u)))) := fun h => absurd (HSm.out.1 h.2.2).2 (by rw [HCc.out]; exact hcn)
                            have hcn2 : 0 ≤ c := by omega
                            go_wp2
                            have HM : Hid _ := HM.out.drew
                            have c0 := HM.out.cell 1 rfl 0 (v := .slice (some ⟨g0, o0, none⟩) q lc) rfl
                            have RZ := (own_sl (show St.Own 37 66 de _ (.slice (some ⟨g0, o0, none⟩) q lc) L from HM.out.get 2 rfl)).2.lay.resolve_left (by omega) |> fun ⟨_, _, e, _, hr⟩ => (by cases e; exact hr i y Hy.out : World.rangeAt _ g0 (o0 + i * 66) (de y))
                            have RY : Hid _ := rng_u RZ
                            clear RZ
                            have RZ := (own_sl (show St.Own 37 66 de _ (.slice (some ⟨g0, o0, none⟩) q lc) L from HM.out.get 2 rfl)).2.lay.resolve_left (by omega) |> fun ⟨_, _, e, _, hr⟩ => (by cases e; exact hr (i + 1) d Hd.out : World.rangeAt _ g0 (o0 + (i + 1) * 66) (de d))
                            have RU : Hid _ := rng_u RZ
                            clear RZ
                            refine Txt.wp_region_text (fun _ => True) [0, 0, 0, 0, 0, 1, 0, 0, 0, 0, 1, 0, 0, 0, 1, 0, 0, 0, 1, 4, 0, 0, 0] (by kernel_rfl) (by kernel_rfl) trivial ?_
                            (repeat (first | ((with_reducible refine at_dt 138 ?_); refine Txt.tl_pure (v := .int .i64 (i : Int)) (by rfl) ?_ ?_; (focus (intro _; go_simp; try exact hwr)); simp only [Act.put, List.setIfInBounds_toArray, List.set_cons_zero, List.set_cons_succ]) | (refine Txt.tl_pure (v := ?_) (by rfl) ?_ ?_; rotate_left; (focus (intro _; go_simp; try with_reducible rfl)); simp only [Act.put, List.setIfInBounds_toArray, List.set_cons_zero, List.set_cons_succ]) | (refine Txt.tl_load (v := ?_) (by rfl) (by rfl) (by rfl) (by kernel_rfl) ?_ ?_; rotate_left; (focus assumption); simp only [Act.put, List.setIfInBounds_toArray, List.set_cons_zero, List.set_cons_succ]) | (refine Txt.tl_rowN (n := 32) (ty := 35) (by rfl) (by rfl) (by rfl) RY.out (by kernel_rfl) (by rw [List.length_map]; exact HYl.out) ?_; simp only [Act.put, List.setIfInBounds_toArray, List.set_cons_zero, List.set_cons_succ]) | (refine Txt.tl_rowN (n := 32) (ty := 35) (by rfl) (by rfl) (by rfl) RU.out (by kernel_rfl) (by rw [List.length_map]; exact HU.out) ?_; simp only [Act.put, List.setIfInBounds_toArray, List.set_cons_zero, List.set_cons_succ])))
                            refine Txt.tl_call Try.func54 (by kernel_rfl) (by kernel_rfl) (by rfl) (by rfl) (by rfl) (HC.out _) ?_
                            rintro e w9 ⟨rfl, k9⟩
                            have HM : Hid _ := HM.out.calm k9
                            clear k9 c0
                            refine ⟨_, rfl, trivial, ?_⟩
                            simp only [Act.put, List.setIfInBounds_toArray, List.set_cons_zero, List.set_cons_succ]
                            (repeat (first | (refine Txt.tl_pure (v := ?_) (by rfl) ?_ ?_; rotate_left; (focus (intro _; go_simp; try with_reducible rfl)); simp only [Act.put, List.setIfInBounds_toArray, List.set_cons_zero, List.set_cons_succ]) | (refine Txt.tl_skip (by rfl) trivial ?_; simp only [Act.put, List.setIfInBounds_toArray, List.set_cons_zero, List.set_cons_succ])))
                            refine Txt.tl_nil ?_
                            go_wp2
                            go_roundw
                            case rel => exact ⟨i + 1, false, .inl (by omega), by go_num, by (first | rfl | rw [decide_eq_false (by omega)]), HM.out, ⟨fun h => (by cases h), fun h => absurd h (show ¬ _ from HF.out)⟩⟩
                            case measure => simp [intOf]; omega
                      · have hlt5 : ¬ ((i : Int) + 1 < (q : Int)) := by omega
                        have HTk2 : Hid (L.take (i + 1) = L) := List.take_of_length_le (by rw [Hq.out]; omega)
                        rw [HTk2.out] at HOk
                        cases ok with
                        | false =>
                          go_wp2
                          go_ret2
                          exact ⟨L, G, a4, 0, 4, _, rfl, HRA.out, .inr ⟨rfl, .inr ⟨bad_none.2 HCa.out, .inr ⟨rfl, fun hf => by have := HOk.out.2 ⟨hf.1, hf.2.2, hf.2.1⟩; cases this⟩⟩⟩, HM.out.keep, fun _ => rfl, fun h => (by cases h)⟩
                        | true =>
                          have HFi : Hid (Fine s L G a4) := ⟨(HOk.out.1 rfl).1, (HOk.out.1 rfl).2.2, (HOk.out.1 rfl).2.1⟩
                          go_wp2
                          go_ret2
                          exact ⟨L, G, a4, 0, 0, _, rfl, HRA.out, .inr ⟨rfl, .inr ⟨bad_none.2 HCa.out, .inl ⟨rfl, HFi.out⟩⟩⟩, HM.out.keep, fun h => absurd rfl h, fun _ => ⟨bx, _, _, rfl, packX HM.out⟩⟩
            · by_cases hlt2 : j < m
              · have HT2 : Hid (Til (rdIds s a3 b3) m j) := ⟨hj, HG2.out, .inr (by rw [HR2.out]; exact hb4)⟩
                have HRA : Hid (RdA s L G a4 bad4) := ⟨_, _, _, _, _, _, _, _, _, _, H1.out, HTl.out, HR.out, Q6.out, HT2.out, HR2.out⟩
                clear hc2
                have H4 : Hid (¬ bad4 = 0) := hb4
                go_wp2
                have HM : Hid _ := HM.out.drew
                have ce := (M.xcells HM.out 0 rfl).2
                refine Txt.wp_region_text (fun _ => True) [0, 0, 0, 1, 0, 0] (by kernel_rfl) (by kernel_rfl) trivial ?_
                (repeat (first | (refine Txt.tl_pure (v := ?_) (by rfl) ?_ ?_; rotate_left; (focus (intro _; go_simp; try with_reducible rfl)); simp only [Act.put, List.setIfInBounds_toArray, List.set_cons_zero, List.set_cons_succ]) | (refine Txt.tl_load (v := .int .i64 bad4) (ty := 3) (by rfl) (by rfl) (by rfl) (by kernel_rfl) ce ?_; simp only [Act.put, List.setIfInBounds_toArray, List.set_cons_zero, List.set_cons_succ])))
                refine Txt.tl_nil ?_
                go_wp2
                go_ret2
                exact ⟨L, G, a4, bad4, bad4, _, rfl, HRA.out, .inl ⟨H4.out, rfl⟩, HM.out.keep, fun _ => rfl, fun h => absurd h H4.out⟩
              · obtain rfl : m = j := by omega
                have HT2 : Hid (Til (rdIds s a3 b3) m m) := ⟨Nat.le_refl _, HG2.out, .inl rfl⟩
                have HRA : Hid (RdA s L G a4 bad4) := ⟨_, _, _, _, _, _, _, _, _, _, H1.out, HTl.out, HR.out, Q6.out, HT2.out, HR2.out⟩
                clear hc2 hlt2
                have H4 : Hid (¬ bad4 = 0) := hb4
                go_wp2
                have HM : Hid _ := HM.out.drew
                have ce := (M.xcells HM.out 0 rfl).2
                refine Txt.wp_region_text (fun _ => True) [0, 0, 0, 1, 0, 0] (by kernel_rfl) (by kernel_rfl) trivial ?_
                (repeat (first | (refine Txt.tl_pure (v := ?_) (by rfl) ?_ ?_; rotate_left; (focus (intro _; go_simp; try with_reducible rfl)); simp only [Act.put, List.setIfInBounds_toArray, List.set_cons_zero, List.set_cons_succ]) | (refine Txt.tl_load (v := .int .i64 bad4) (ty := 3) (by rfl) (by rfl) (by rfl) (by kernel_rfl) ce ?_; simp only [Act.put, List.setIfInBounds_toArray, List.set_cons_zero, List.set_cons_succ])))
                refine Txt.tl_nil ?_
                go_wp2
                go_ret2
                exact ⟨L, G, a4, bad4, bad4, _, rfl, HRA.out, .inl ⟨H4.out, rfl⟩, HM.out.keep, fun _ => rfl, fun h => absurd h H4.out⟩
end Sq
end Go.Proofs.Ytgpimeobkacniaa
