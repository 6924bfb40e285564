/-
  fetch: Round, walked.
-/
import Derived.Test.YtgllkfolckbdhaaFeA
set_option linter.unusedVariables false
set_option linter.unusedSimpArgs false
namespace Go.Proofs.Ytgllkfolckbdhaa
open Go.RowKit
namespace Fe
open Oct Ids Mp
open Mem (M It blk ids rows)
theorem apart_of {F : Nat → Prop} {w0 w : World} {it : List It} (h : M F w0 w it) (i j : Nat) (hij : i ≠ j) {b b2 : Nat} {lv hv : Value} {L : List Fd} {H : List Wd} {at_ : Int} {S : List Int} {sf : Int} (hi : it[i]? = some (ftI b b2 lv hv L H at_ S sf)) {ma : Option Addr} {q mc : Nat} {ms : List Wd} (hj : it[j]? = some (ids (.slice ma q mc) ms)) : Apart b b2 lv hv ma q := fun g o e h0 hf => by
  refine h.dis i j _ _ hi hj hij g hf ?_
  subst e
  rfl
theorem inrange {F : Nat → Prop} {w0 w : World} {it : List It} (h : M F w0 w it) (j : Nat) {ma : Option Addr} {q mc : Nat} {ms : List Wd} (hj : it[j]? = some (ids (.slice ma q mc) ms)) : ∀ g o, ma = some ⟨g, o, none⟩ → q ≠ 0 → g < w.heap.size := fun g o e _ => by
  subst e
  exact (h.rng j _ hj g rfl).2
set_option maxRecDepth 100000 in
set_option maxHeartbeats 16000000 in
theorem fround (w : World) (b b2 : Nat) (lv hv : Value) (L : List Fd) (H : List Wd) (at_ : Nat) (S : List Int) (sf : Int) (h : FAt w b b2 lv hv L H at_ S sf) (hX : ∀ x ∈ L, XOk x) (hL : L.length ≤ 100) (hH : H.length ≤ 500) (hS : SOk S sf) (hat : at_ ≤ 500) (a : Option Addr) (n c : Nat) (l : List Wd) (hA : At w a n l) (hn : n ≤ 500) (time : Int) :
    Calls Try.prog 9 #[.pointer (some ⟨b, 0, none⟩), .slice a n c, .int .i64 time] w fun e w' => ∃ v lv' hv', e = .returned v ∧
      M (ffoot b b2 lv hv) w w' [ftI b b2 lv' hv' (roundR sf (clk time) (onceL l) S H L at_).left (roundR sf (clk time) (onceL l) S H L at_).H ((L2of (onceL l) (clk time) L at_).2 : Nat) (roundR sf (clk time) (onceL l) S H L at_).S sf, rF v (roundR sf (clk time) (onceL l) S H L at_).asked] := by
  have HM : Hid (M (ffoot b b2 lv hv) w w [ftI b b2 lv hv L H at_ S sf]) := packF (l := []) h.all
  have HLl : Hid (L.length ≤ 100) := hL
  have HHl : Hid (H.length ≤ 500) := hH
  have HSo : Hid (SOk S sf) := hS
  have HXo : Hid (∀ x ∈ L, XOk x) := hX
  have HAl : Hid (At w a n l) := hA
  obtain ⟨_, c1, _, _⟩ := h.cells
  have hml : (onceL l).length ≤ 500 := Nat.le_trans (onceL_len l) (by rw [hA.len]; exact hn)
  have hnow := clk_in time
  obtain ⟨now, hnw⟩ : ∃ m, clk time = m := ⟨_, rfl⟩
  have Hnw : Hid (clk time = now) := hnw
  rw [hnw] at hnow ⊢
  obtain ⟨ms, hms⟩ : ∃ m, onceL l = m := ⟨_, rfl⟩
  have Hms : Hid (onceL l = ms) := hms
  rw [hms] at hml ⊢
  obtain ⟨q, hq⟩ : ∃ m, ms.length = m := ⟨_, rfl⟩
  have Hq : Hid (ms.length = q) := hq
  rw [hq] at hml
  obtain ⟨R2, hR2⟩ : ∃ R, fillF ms now q 8 (L.filter (inL ms)) at_ = R := ⟨_, rfl⟩
  have HR2 : Hid (fillF ms now q 8 (L.filter (inL ms)) at_ = R2) := hR2
  have HL1 : Hid ((L.filter (inL ms)).length ≤ 100) := Nat.le_trans (List.length_filter_le _ _) hL
  have HH1 : Hid ((H.filter (inH ms)).length ≤ 500) := Nat.le_trans (List.length_filter_le _ _) hH
  have HX2 : Hid (∀ x ∈ R2.1, XOk x) := by
    show ∀ x ∈ R2.1, XOk x
    rw [← hR2]
    exact fillF_ok 8 _ _ (fun x hx => hX x (List.mem_filter.1 hx).1)
  have HL2 : Hid (R2.1.length ≤ 100) := by show _ ≤ _; rw [← hR2]; exact fillF_len _ _ _ _ _ _ HL1.out
  have hat2 : R2.2 ≤ 500 := by rw [← hR2]; exact fillF_at hml 8 _ _ hat hq
  have HE : Hid (roundR sf now ms S H L at_ = R2.1.foldl (rnd1 sf now) ⟨S, H.filter (inH ms), [], []⟩ ∧ (L2of ms now L at_).2 = R2.2) := by
    show _ ∧ _
    unfold roundR L2of
    rw [hq, hR2]
    exact ⟨rfl, rfl⟩
  rw [HE.out.1, HE.out.2]
  obtain ⟨L2, at2⟩ := R2
  simp only at HX2 HL2 hat2 ⊢
  obtain ⟨H1, hH1⟩ : ∃ H1, H.filter (inH ms) = H1 := ⟨_, rfl⟩
  rw [hH1] at HH1 ⊢
  have HHe : Hid (H.filter (inH ms) = H1) := hH1
  clear h hX hL hH hS hA hms hq hR2 hnw HE hH1
  go_enter Try.func9, Try.ntmps9
  go_wp2_with (first | (go_at_call 22; refine (fnone _ b b2 c1).mono ?_; rintro e w1 ⟨rfl, h1⟩; replace h1 := h1.symm; subst h1) | (go_at_call 25; refine (once_any _ a n c l HAl.out (by omega)).mono ?_; rintro e w1 ⟨v1, rfl, n1⟩; rw [Hms.out] at n1; obtain ⟨ma, mc, e1, _, _⟩ := n1.1.at; rw [Hq.out] at e1; subst e1; have HM : Hid (M (ffoot b b2 lv hv) w w1 [ftI b b2 lv hv L H at_ S sf, ids (.slice ma q mc) ms]) := HM.out.add (x := ids (.slice ma q mc) ms) n1.2.1 n1.1 (fun k hk => ⟨n1.2.2 k hk, n1.1.lt hk⟩); clear n1) | (go_at_call 26; refine (clock_any _ time).mono ?_; rintro e w2 ⟨rfl, h2⟩; replace h2 := h2.symm; subst h2; rw [Hnw.out]) | (go_at_call 27; refine (fkeep _ b b2 lv hv L H at_ S sf (HM.out.get 0 rfl) HLl.out (by have := HHl.out; omega) ma q mc ms (own_idat (HM.out.get 1 rfl)) (by omega) (apart_of HM.out 0 1 (by decide) rfl rfl)).mono ?_; rintro e w3 ⟨rfl, lv3, hv3, t3⟩; rw [HHe.out] at t3; have HM : Hid _ := M.fto HM.out 0 rfl t3; clear t3) | (go_at_call 28; refine (ffill _ b b2 lv3 hv3 _ H1 at_ S sf (HM.out.get 0 rfl) HL1.out (by omega) ma q mc ms (own_idat (HM.out.get 1 rfl)) (by omega) (apart_of HM.out 0 1 (by decide) rfl rfl) (inrange HM.out 1 rfl) now 8 (by omega)).mono ?_; rintro e w4 ⟨rfl, lv4, t4⟩; rw [HR2.out] at t4; have HM : Hid (M (ffoot b b2 lv hv) w w4 [ftI b b2 lv4 hv3 L2 H1 at2 S sf, ids (.slice ma q mc) ms]) := M.fto HM.out 0 rfl t4; clear t4; have HM := (unpackF (l := [ids (.slice ma q mc) ms]) (HM.out.sub _ [1, 0] (by decide) rfl)).sub (fit b b2 lv4 hv3 L2 H1 at2 S sf ++ [ids (.slice ma q mc) ms]) [1, 2, 3, 4, 0] (by decide) rfl; have HM : Hid (M (ffoot b b2 lv hv) w w4 (fit b b2 lv4 hv3 L2 H1 at2 S sf ++ [ids (.slice ma q mc) ms, rF (.slice none 0 0) [], rF (.slice none 0 0) []])) := (HM.nilR 39 37 fe).nilR 39 37 fe; obtain ⟨la, lc, e4, _⟩ := (show OwnF w4 lv4 L2 from HM.out.get 1 rfl).any; obtain ⟨n2, hn2⟩ : ∃ m, L2.length = m := ⟨_, rfl⟩; have Hn2 : Hid (L2.length = n2) := hn2; rw [hn2] at e4; subst e4; clear hn2; have c0 := HM.out.cell 0 rfl 0 (v := .slice la n2 lc) rfl))
  clear HXo HAl HHl c1
  go_loopw [9, 10, 31] (fun s9 s10 s31 wr => ∃ (k : Nat) (vl va hvk : Value) (r : RS), k ≤ n2 ∧ s9 = vl ∧ s10 = va ∧ s31 = .int .i64 k ∧ r = (L2.take k).foldl (rnd1 sf now) ⟨S, H1, [], []⟩ ∧ RIn sf r k 500 ∧ M (ffoot b b2 lv hv) w wr (fit b b2 (.slice la n2 lc) hvk L2 r.H at2 r.S sf ++ [ids (.slice ma q mc) ms, rF vl r.left, rF va r.asked])) (fun _ _ s31 _ => n2 - (intOf s31).toNat)
  case atStart => exact ⟨0, _, _, hv3, ⟨S, H1, [], []⟩, Nat.zero_le _, rfl, rfl, by go_num, rfl, ⟨HSo.out, HH1.out, Nat.le_refl _, Nat.le_refl _⟩, HM.out⟩
  case round =>
    clear HM c0
    obtain ⟨k, vl, va, hvk, r, hk, e9, e10, rfl, hr, hin, hM⟩ := hrel
    replace e9 := e9.symm
    replace e10 := e10.symm
    subst e9 e10
    have HM : Hid (M (ffoot b b2 lv hv) w wr (fit b b2 (.slice la n2 lc) hvk L2 r.H at2 r.S sf ++ [ids (.slice ma q mc) ms, rF vl r.left, rF va r.asked])) := hM
    have HR : Hid (r = (L2.take k).foldl (rnd1 sf now) ⟨S, H1, [], []⟩) := hr
    have HIn : Hid (RIn sf r k 500) := hin
    have hn100 : n2 ≤ 100 := by rw [← Hn2.out]; exact HL2.out
    clear hM hr hin
    by_cases hlt : k < n2
    · obtain ⟨x, hx⟩ : ∃ x, L2[k]? = some x := ⟨_, List.getElem?_eq_getElem (by rw [Hn2.out]; exact hlt)⟩
      obtain ⟨g0, o0, e0, _, hr0⟩ := (St.Own.slice (show OwnF wr (.slice la n2 lc) L2 from HM.out.get 1 rfl)).2.lay.resolve_left (by have := Hn2.out; omega)
      subst e0
      have R1 : Hid (wr.rangeAt g0 (o0 + k * 37) (fe x)) := hr0 k x hx
      have HXx : Hid (XOk x) := HX2.out x (List.mem_of_getElem? hx)
      have HSt : Hid ((L2.take (k + 1)).foldl (rnd1 sf now) ⟨S, H1, [], []⟩ = rnd1 sf now r x) := by
        show _ = _
        rw [List.take_add_one, hx, List.foldl_append, ← HR.out]
        rfl
      have HN : Hid (RIn sf (rnd1 sf now r x) (k + 1) 500) := HIn.out.step x
      have Hll : Hid (r.left.length ≤ 1000 ∧ r.asked.length ≤ 1000 ∧ r.H.length ≤ 1000) := by
        show _ ∧ _
        obtain ⟨_, i1, i2, i3⟩ := HIn.out
        omega
      have HMx : Hid (M (ffoot b b2 lv hv) w _ ((fit b b2 (.slice (some ⟨g0, o0, none⟩) n2 lc) hvk L2 r.H at2 r.S sf ++ [ids (.slice ma q mc) ms, rF vl r.left, rF va r.asked]) ++ [blk wr.heap.size (xO x)])) := HM.out.alloc (xO x) rfl
      have d33 := HMx.out.cell 7 rfl 33 (fe_d x)
      clear hr0 hx HM
      by_cases hdue : x.d ≤ now
      · have HA : Hid (∃ u, u = u) := ⟨0, rfl⟩
        have HM : Hid (M (ffoot b b2 lv hv) w _ (fit b b2 (.slice (some ⟨g0, o0, none⟩) n2 lc) hvk L2 r.H at2 r.S sf ++ blk wr.heap.size (xO x) :: [ids (.slice ma q mc) ms, rF vl r.left, rF va r.asked])) := HMx.out.sub _ [0, 1, 2, 3, 7, 4, 5, 6] (by decide) rfl
        have HQ : Hid (Calls Try.prog 29 #[.pointer (some ⟨b, 0, none⟩), .pointer (some ⟨wr.heap.size, 0, none⟩), .int .i64 now] (wr.alloc (xO x)) fun e w' => e = .returned (.bool (askR r.S sf x).2) ∧ ∃ hv', M (ffoot b b2 lv hv) w w' (fit b b2 (.slice (some ⟨g0, o0, none⟩) n2 lc) hv' L2 (askH r.S sf x r.H) at2 (askS r.S sf x) sf ++ blk wr.heap.size (xO (askX r.S sf x now)) :: [ids (.slice ma q mc) ms, rF vl r.left, rF va r.asked])) := fask HM.out HIn.out.S Hll.out.2.2 HXx.out now hnow
        clear HA HM HMx
        cases hok : (askR r.S sf x).2 with
        | false =>
          have HOk : Hid ((askR r.S sf x).2 = false) := hok
          rw [hok] at HQ
          clear hok
          go_wp2_with (first | ((with_reducible refine at_dst 34 ?_); refine St.wl_load tyF rfl rfl rfl R1.out (fe_len _) ?_; simp only [Act.put, List.setIfInBounds_toArray, List.set_cons_zero, List.set_cons_succ]) | ((with_reducible refine at_alloc 39 ?_); refine St.wl_alloc tyF rfl rfl (by (try simp only [World.size_alloc]); rfl) ?_; simp only [Act.put, List.setIfInBounds_toArray, List.set_cons_zero, List.set_cons_succ]) | ((with_reducible refine at_store 39 ?_); refine St.wl_storeN (W := wr) tyF rfl rfl rfl rfl rfl (by (try simp only [World.size_alloc])) (show _ = Value.agg (fe x).toArray from rfl) (fe_sz x) rfl (F_enc.all x) ?_) | (go_at_call 29; refine HQ.out.mono ?_; rintro e w5 ⟨rfl, hv5, m5⟩; have HM : Hid _ := m5; clear m5))
          go_roundw
          case rel =>
            refine ⟨k + 1, vl, va, hv5, _, by omega, rfl, rfl, by go_num, HSt.out.symm, HN.out, ?_⟩
            have e1 : askH r.S sf x r.H = IdL.setL (r.H ++ [x.u]) := by unfold askH; rw [HOk.out]; rfl
            have HM := HM.out
            rw [e1] at HM
            rw [rnd1_no hdue HOk.out]
            exact HM.sub _ [0, 1, 2, 3, 5, 6, 7] (by decide) rfl
          case measure => simp [intOf]; omega
        | true =>
          have HOk : Hid ((askR r.S sf x).2 = true) := hok
          have HEh : Hid (askH r.S sf x r.H = r.H) := by show _ = _; unfold askH; rw [hok]; rfl
          rw [hok, HEh.out] at HQ
          clear hok
          obtain ⟨y, hy⟩ : ∃ y, askX r.S sf x now = y := ⟨_, rfl⟩
          have Hy : Hid (askX r.S sf x now = y) := hy
          rw [hy] at HQ
          clear hy
          go_wp2_with (first | ((with_reducible refine at_dst 34 ?_); refine St.wl_load tyF rfl rfl rfl R1.out (fe_len _) ?_; simp only [Act.put, List.setIfInBounds_toArray, List.set_cons_zero, List.set_cons_succ]) | ((with_reducible refine at_alloc 39 ?_); refine St.wl_alloc tyF rfl rfl (by (try simp only [World.size_alloc]); rfl) ?_; simp only [Act.put, List.setIfInBounds_toArray, List.set_cons_zero, List.set_cons_succ]) | ((with_reducible refine at_store 39 ?_); refine St.wl_storeN (W := wr) tyF rfl rfl rfl rfl rfl (by (try simp only [World.size_alloc])) (show _ = Value.agg (fe x).toArray from rfl) (fe_sz x) rfl (F_enc.all x) ?_) | (go_at_call 29; refine HQ.out.mono ?_; rintro e w5 ⟨rfl, hv5, m5⟩; have HM : Hid _ := m5; clear m5) | ((with_reducible refine at_load 39 ?_); refine St.wl_load tyF rfl rfl rfl (HM.out.range 4 rfl) (fe_len _) ?_; simp only [Act.put, List.setIfInBounds_toArray, List.set_cons_zero, List.set_cons_succ]) | (go_at_call 30; refine (ftold (mkF (HM.out.take 4)) Hll.out.2.2 y).mono ?_; rintro e w6 ⟨rfl, k6⟩; have HM : Hid _ := HM.out.calm k6; clear k6) | ((with_reducible refine at_dst 47 ?_); refine St.wl_build slF (by decide) rfl rfl (fe_len (toldX r.H y)) rfl ?_; have HM : Hid _ := HM.out.alloc (xO (toldX r.H y)) rfl; simp only [Act.put, List.setIfInBounds_toArray, List.set_cons_zero, List.set_cons_succ]) | ((with_reducible refine at_dst 48 ?_); refine St.wl_app1 slF (by decide) rfl rfl rfl (HM.out.get 7 rfl) rfl (fe_len _) (F_enc.all (toldX r.H y)) (HM.out.get 8 rfl) (by have := Hll.out; omega) ?_; intro v7 w7 h7 k7 g7; have HM : Hid _ := (HM.out.appR 7 rfl h7 k7 g7).take 8; clear h7 k7 g7; simp only [Act.put, List.setIfInBounds_toArray, List.set_cons_zero, List.set_cons_succ]) | ((with_reducible refine at_dst 51 ?_); refine St.wl_build slF (by decide) rfl rfl (fe_len y) rfl ?_; have HM : Hid _ := HM.out.alloc (xO y) rfl; simp only [Act.put, List.setIfInBounds_toArray, List.set_cons_zero, List.set_cons_succ]) | ((with_reducible refine at_dst 52 ?_); refine St.wl_app1 slF (by decide) rfl rfl rfl (HM.out.get 6 rfl) rfl (fe_len _) (F_enc.all y) (HM.out.get 8 rfl) (by have := Hll.out; omega) ?_; intro v8 w8 h8 k8 g8; have HM : Hid _ := (HM.out.appR 6 rfl h8 k8 g8).take 8; clear h8 k8 g8; simp only [Act.put, List.setIfInBounds_toArray, List.set_cons_zero, List.set_cons_succ]))
          go_roundw
          case rel =>
            refine ⟨k + 1, v8, v7, hv5, _, by omega, rfl, rfl, by go_num, HSt.out.symm, HN.out, ?_⟩
            rw [rnd1_ok hdue HOk.out, Hy.out]
            exact HM.out.sub _ [0, 1, 2, 3, 5, 6, 7] (by decide) rfl
          case measure => simp [intOf]; omega
      · have HM : Hid _ := HMx.out
        clear HMx
        go_wp2_with (first | ((with_reducible refine at_dst 34 ?_); refine St.wl_load tyF rfl rfl rfl R1.out (fe_len _) ?_; simp only [Act.put, List.setIfInBounds_toArray, List.set_cons_zero, List.set_cons_succ]) | ((with_reducible refine at_alloc 39 ?_); refine St.wl_alloc tyF rfl rfl (by (try simp only [World.size_alloc]); rfl) ?_; simp only [Act.put, List.setIfInBounds_toArray, List.set_cons_zero, List.set_cons_succ]) | ((with_reducible refine at_store 39 ?_); refine St.wl_storeN (W := wr) tyF rfl rfl rfl rfl rfl (by (try simp only [World.size_alloc])) (show _ = Value.agg (fe x).toArray from rfl) (fe_sz x) rfl (F_enc.all x) ?_) | ((with_reducible refine at_load 39 ?_); refine St.wl_load tyF rfl rfl rfl (HM.out.range 7 rfl) (fe_len _) ?_; simp only [Act.put, List.setIfInBounds_toArray, List.set_cons_zero, List.set_cons_succ]) | ((with_reducible refine at_dst 51 ?_); refine St.wl_build slF (by decide) rfl rfl (fe_len x) (by (try simp only [World.size_alloc]); rfl) ?_; have HM : Hid _ := HM.out.alloc (xO x) (by first | rfl | simp only [World.size_alloc]); simp only [Act.put, List.setIfInBounds_toArray, List.set_cons_zero, List.set_cons_succ]) | ((with_reducible refine at_dst 52 ?_); refine St.wl_app1 slF (by decide) rfl rfl rfl (HM.out.get 5 rfl) rfl (fe_len _) (F_enc.all x) (HM.out.get 8 rfl) (by have := Hll.out; omega) ?_; intro v8 w8 h8 k8 g8; have HM : Hid _ := (HM.out.appR 5 rfl h8 k8 g8).take 7; clear h8 k8 g8; simp only [Act.put, List.setIfInBounds_toArray, List.set_cons_zero, List.set_cons_succ]))
        go_roundw
        case rel =>
          refine ⟨k + 1, v8, va, hvk, _, by omega, rfl, rfl, by go_num, HSt.out.symm, HN.out, ?_⟩
          rw [rnd1_not hdue]
          exact HM.out
        case measure => simp [intOf]; omega
    · obtain rfl : k = n2 := by omega
      have e : L2.take k = L2 := List.take_of_length_le (by rw [Hn2.out]; exact Nat.le_refl _)
      have HRR : Hid (L2.foldl (rnd1 sf now) ⟨S, H1, [], []⟩ = r) := by show _ = _; rw [HR.out, e]
      obtain ⟨ga, gc, e5, _⟩ := (show OwnF wr vl r.left from HM.out.get 5 rfl).any
      obtain ⟨qn, hqn⟩ : ∃ m, r.left.length = m := ⟨_, rfl⟩
      rw [hqn] at e5
      subst e5
      clear e hqn
      go_wp2_with (first | ((with_reducible refine at_store 36 ?_); refine wpList_plain rfl fun K hK => wp_storeF rfl rfl rfl rfl (HM.out.cell 0 rfl 0 rfl) (HM.out.free 0 rfl 0) (hK _ _ ?_); have HM : Hid _ := HM.out.setc 0 rfl 0 (.slice ga qn gc)))
      go_ret
      rw [HRR.out]
      refine ⟨va, .slice ga qn gc, hvk, rfl, ?_⟩
      exact (packF (l := [rF va r.asked]) (HM.out.sub ([rF va r.asked] ++ fit b b2 (.slice ga qn gc) hvk r.left r.H at2 r.S sf) [6, 0, 5, 2, 3] (by decide) rfl)).sub _ [1, 0] (by decide) rfl
end Fe
end Go.Proofs.Ytgllkfolckbdhaa
