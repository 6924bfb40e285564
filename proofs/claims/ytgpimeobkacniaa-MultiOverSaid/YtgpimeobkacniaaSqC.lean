/-
  The document's Behind.
-/
import Derived.Test.YtgpimeobkacniaaSqZ
import Derived.Test.YtgpimeobkacniaaSqB
set_option linter.unusedVariables false
set_option linter.unusedSimpArgs false
namespace Go.Proofs.Ytgpimeobkacniaa
open Go.RowKit
namespace Sq
open Oct Ids Mp
open Mem (M It blk ids rows)
/-- A new row of nodes. -/
structure BehPost (w : World) (L : List Dn) (e : Ending) (w' : World) : Prop where
  ex : ∃ v, e = .returned v ∧ St.New 37 66 de w w' v L
set_option maxRecDepth 100000 in
set_option maxHeartbeats 16000000 in
theorem xbeh_any (w : World) (b : Nat) (lv gv : Value) (X : List Dn) (G : List Wd) (h : XsAt w b lv gv X G) (hX : X.length ≤ 1000) (r : Wd) (hr : r.length = 32) :
    Calls Try.prog 74 #[.pointer (some ⟨b, 0, none⟩), idv r] w (BehPost w (behD X r)) := by
  obtain ⟨la, lc, e0, hrow⟩ := h.row
  subst e0
  obtain ⟨n, hn⟩ : ∃ n, X.length = n := ⟨_, rfl⟩
  rw [hn] at h hrow hX
  have Hn : Hid (X.length = n) := hn
  have HXs : Hid (XsAt w b (.slice la n lc) gv X G) := h
  have HRow : Hid (St.At 66 de w la n X) := hrow
  have HRl : Hid (r.length = 32) := hr
  have HM : Hid (M (fun _ => False) w _ [blk w.heap.size (.cells (r.map bv).toArray 35)]) := (M.start _ w).alloc (.cells (r.map bv).toArray 35) rfl
  clear h hrow hr hn
  go_enter Try.func74, Try.ntmps74
  go_wp2
  have HM : Hid (M (fun _ => False) w _ [blk w.heap.size (.cells (r.map bv).toArray 35), rD (.slice none 0 0) []]) := HM.out.nilR 37 66 de
  go_loopw [5, 6] (fun s5 s6 wr => ∃ (k : Nat) (v : Value), k ≤ n ∧ s5 = v ∧ s6 = .int .i64 k ∧ M (fun _ => False) w wr [blk w.heap.size (.cells (r.map bv).toArray 35), rD v (behD (X.take k) r)]) (fun _ s6 _ => n - (intOf s6).toNat)
  case atStart => exact ⟨0, _, Nat.zero_le _, rfl, by go_num, HM.out⟩
  case round =>
    clear HM
    obtain ⟨wo, rfl⟩ : ∃ x, x = wr := ⟨wr, rfl⟩
    obtain ⟨k, v, hk, e1, rfl, hM⟩ := hrel
    replace e1 := e1.symm
    subst e1
    have HM : Hid (M (fun _ => False) w wo [blk w.heap.size (.cells (r.map bv).toArray 35), rD v (behD (X.take k) r)]) := hM
    clear hM
    have c0 := (HXs.out.calm HM.out.keep).cells.1
    by_cases hlt : k < n
    · obtain ⟨y, hy⟩ : ∃ y, X[k]? = some y := ⟨_, List.getElem?_eq_getElem (by rw [Hn.out]; exact hlt)⟩
      have Hy : Hid (X[k]? = some y) := hy
      obtain ⟨g0, o0, e0, hb0, hr0⟩ := HRow.out.lay.resolve_left (by omega)
      subst e0
      have Ry : Hid (wo.rangeAt g0 (o0 + k * 66) (de y)) := HM.out.keep.range hb0 (fun h => h) (hr0 k y hy)
      have HDl : Hid ((de y).length = 66) := de_len y
      have HDs : Hid ((de y).toArray.size = 66) := by show _ = _; rw [List.size_toArray]; exact de_len y
      have HD1 : Hid ((de y).toArray.all (·.oneCell') = true) := encD.all y
      have HYl : Hid (y.u.length = 32) := y.hu
      have HYr : Hid (y.x.r.length = 32) := y.x.hr
      have HM : Hid (M (fun _ => False) w _ [blk w.heap.size (.cells (r.map bv).toArray 35), rD v (behD (X.take k) r), blk wo.heap.size (.cells (de y).toArray 37)]) := HM.out.alloc (.cells (de y).toArray 37) rfl
      have RR : Hid _ := rng_r (HM.out.range 2 rfl)
      have RB : Hid _ := HM.out.range 0 rfl
      simp only [Nat.zero_add] at RR
      have hz : ∀ w, Sem.run Try.prog (binOp .neq 35 (idv y.x.r) (idv r)) w = .ok (.bool (!(y.x.r == r))) w := fun w => neq_id w y.x.r r y.x.hr HRl.out
      clear hr0 hy hb0
      by_cases hp : y.x.r = r
      · have hp' : (y.x.r == r) = true := by simpa using hp
        have HE : Hid (behD (X.take (k + 1)) r = insB (behD (X.take k) r) y) := beh_in Hy.out hp
        have HLk : Hid ((behD (X.take k) r).length ≤ k) := Nat.le_trans (beh_len r _ _ rfl) (List.length_take_le _ _)
        rw [hp'] at hz
        clear hp hp'
        go_wp2_with (first | ((with_reducible refine at_load 37 ?_); refine St.wl_load tyD rfl rfl rfl Ry.out HDl.out ?_; simp only [Act.put, List.setIfInBounds_toArray, List.set_cons_zero, List.set_cons_succ]) | ((with_reducible refine at_alloc 37 ?_); refine St.wl_alloc tyD rfl rfl (by (try simp only [World.size_alloc]); rfl) ?_; simp only [Act.put, List.setIfInBounds_toArray, List.set_cons_zero, List.set_cons_succ]) | ((with_reducible refine at_store 37 ?_); refine St.wl_storeN (W := wo) tyD rfl rfl rfl rfl rfl (by (try simp only [World.size_alloc])) (show _ = Value.agg (de y).toArray from rfl) HDs.out rfl HD1.out ?_) | ((with_reducible refine at_load 35 ?_); first | (refine wl_loadG (by rfl) rfl rfl HYr.out RR.out ?_; simp only [Act.put, List.setIfInBounds_toArray, List.set_cons_zero, List.set_cons_succ]) | (refine wl_loadG (by rfl) rfl rfl HRl.out RB.out ?_; simp only [Act.put, List.setIfInBounds_toArray, List.set_cons_zero, List.set_cons_succ])))
        clear hz c0 Ry RR RB
        generalize behD (X.take k) r = L at HM HE HLk
        obtain ⟨va, vc, e1, _⟩ := (show St.Own 37 66 de _ v L from HM.out.get 1 rfl).any
        subst e1
        obtain ⟨q, hq⟩ : ∃ q, L.length = q := ⟨_, rfl⟩
        have Hq : Hid (L.length = q) := hq
        rw [hq] at HM HLk ⊢
        have hq1 : q ≤ 1000 := by have := HLk.out; omega
        obtain ⟨hqc, hvm, hfm⟩ := own_fm (show St.Own 37 66 de _ (.slice va q vc) L from HM.out.get 1 rfl)
        have Hf : Hid _ := hfm
        unfold maxLen at hvm
        clear hq HLk hfm
        go_loopw [8] (fun s8 wq => ∃ (j : Nat), j ≤ q ∧ s8 = .int .i64 j ∧ M (fun _ => False) w wq [blk w.heap.size (.cells (r.map bv).toArray 35), rD (.slice va q vc) L, blk wo.heap.size (.cells (de y).toArray 37)] ∧ (∀ (i : Nat) (z : Dn), i < j → L[i]? = some z → ah y.x.h y.u z.x.h z.u = true)) (fun s8 _ => q - (intOf s8).toNat)
        case atStart => exact ⟨0, Nat.zero_le _, by go_num, HM.out, fun i z hi => absurd hi (Nat.not_lt_zero _)⟩
        case round =>
          clear HM
          obtain ⟨j, hj, rfl, hM, hb⟩ := hrel
          have HM : Hid (M (fun _ => False) w wr [blk w.heap.size (.cells (r.map bv).toArray 35), rD (.slice va q vc) L, blk wo.heap.size (.cells (de y).toArray 37)]) := hM
          have HB : Hid (∀ (i : Nat) (z : Dn), i < j → L[i]? = some z → ah y.x.h y.u z.x.h z.u = true) := hb
          clear hM hb
          by_cases hlt2 : j < q
          · obtain ⟨z, hz⟩ : ∃ z, L[j]? = some z := ⟨_, List.getElem?_eq_getElem (by rw [Hq.out]; exact hlt2)⟩
            have Hz : Hid (L[j]? = some z) := hz
            have HU : Hid (z.u.length = 32) := z.hu
            obtain ⟨g1, o1, e1, _, hr1⟩ := (own_sl (show St.Own 37 66 de _ (.slice va q vc) L from HM.out.get 1 rfl)).2.lay.resolve_left (by omega)
            subst e1
            clear hr1 hz
            go_wp2
            have HM : Hid _ := HM.out.drew
            have RZ := (own_sl (show St.Own 37 66 de _ (.slice (some ⟨g1, o1, none⟩) q vc) L from HM.out.get 1 rfl)).2.lay.resolve_left (by omega) |> fun ⟨_, _, e, _, hr⟩ => (by cases e; exact hr j z Hz.out : World.rangeAt _ g1 (o1 + j * 66) (de z))
            have RU : Hid _ := rng_u RZ
            have e32 := rng_h RZ
            have RY : Hid _ := rng_u (HM.out.range 2 rfl)
            have d32 := rng_h (HM.out.range 2 rfl)
            simp only [Nat.zero_add] at d32
            obtain ⟨r2, hr2⟩ : ∃ r, ah y.x.h y.u z.x.h z.u = r := ⟨_, rfl⟩
            have HR : Hid (ah y.x.h y.u z.x.h z.u = r2) := hr2
            have HAh : Hid (∀ w, Calls Try.prog 18 #[.int .i64 y.x.h, idv y.u, .int .i64 z.x.h, idv z.u] w fun e w' => e = .returned (.bool r2) ∧ Keep (fun _ => False) w w') := fun w => xahead_any w y.x.h z.x.h y.u z.u y.hu z.hu r2 hr2
            clear RZ hr2
            refine Txt.wp_region_text (fun _ => True) [0, 0, 0, 0, 0, 0, 1, 0, 1, 0, 0, 0, 0, 1, 0, 0, 0, 0, 1, 4, 0] (by kernel_rfl) (by kernel_rfl) trivial ?_
            (repeat (first | (refine Txt.tl_pure (v := ?_) (by rfl) ?_ ?_; rotate_left; (focus (intro _; go_simp; try with_reducible rfl)); simp only [Act.put, List.setIfInBounds_toArray, List.set_cons_zero, List.set_cons_succ]) | (refine Txt.tl_load (v := ?_) (by rfl) (by rfl) (by rfl) (by kernel_rfl) ?_ ?_; rotate_left; (focus assumption); simp only [Act.put, List.setIfInBounds_toArray, List.set_cons_zero, List.set_cons_succ]) | (refine Txt.tl_rowN (n := 32) (ty := 35) (by rfl) (by rfl) (by rfl) RY.out (by kernel_rfl) (by rw [List.length_map]; exact HYl.out) ?_; simp only [Act.put, List.setIfInBounds_toArray, List.set_cons_zero, List.set_cons_succ]) | (refine Txt.tl_rowN (n := 32) (ty := 35) (by rfl) (by rfl) (by rfl) RU.out (by kernel_rfl) (by rw [List.length_map]; exact HU.out) ?_; simp only [Act.put, List.setIfInBounds_toArray, List.set_cons_zero, List.set_cons_succ]) | (refine Txt.tl_skip (by rfl) trivial ?_; simp only [Act.put, List.setIfInBounds_toArray, List.set_cons_zero, List.set_cons_succ])))
            refine Txt.tl_call Try.func18 (by kernel_rfl) (by kernel_rfl) (by rfl) (by rfl) (by rfl) (HAh.out _) ?_
            rintro e w2 ⟨rfl, k2⟩
            have HM : Hid _ := HM.out.calm k2
            clear k2 HAh
            refine ⟨_, rfl, trivial, ?_⟩
            simp only [Act.put, List.setIfInBounds_toArray, List.set_cons_zero, List.set_cons_succ]
            cases r2 with
            | true =>
              (repeat (first | (refine Txt.tl_pure (v := ?_) (by rfl) ?_ ?_; rotate_left; (focus (intro _; go_simp; try with_reducible rfl)); simp only [Act.put, List.setIfInBounds_toArray, List.set_cons_zero, List.set_cons_succ]) | (refine Txt.tl_load (v := ?_) (by rfl) (by rfl) (by rfl) (by kernel_rfl) ?_ ?_; rotate_left; (focus assumption); simp only [Act.put, List.setIfInBounds_toArray, List.set_cons_zero, List.set_cons_succ]) | (refine Txt.tl_rowN (n := 32) (ty := 35) (by rfl) (by rfl) (by rfl) RY.out (by kernel_rfl) (by rw [List.length_map]; exact HYl.out) ?_; simp only [Act.put, List.setIfInBounds_toArray, List.set_cons_zero, List.set_cons_succ]) | (refine Txt.tl_rowN (n := 32) (ty := 35) (by rfl) (by rfl) (by rfl) RU.out (by kernel_rfl) (by rw [List.length_map]; exact HU.out) ?_; simp only [Act.put, List.setIfInBounds_toArray, List.set_cons_zero, List.set_cons_succ]) | (refine Txt.tl_skip (by rfl) trivial ?_; simp only [Act.put, List.setIfInBounds_toArray, List.set_cons_zero, List.set_cons_succ])))
              refine Txt.tl_nil ?_
              go_wp2
              go_roundw
              case rel =>
                refine ⟨j + 1, by omega, by go_num, HM.out, fun i u hi hu => ?_⟩
                rcases Nat.lt_or_ge i j with h1 | h1
                · exact HB.out i u h1 hu
                · obtain rfl : i = j := by omega
                  rw [Hz.out] at hu
                  rw [← Option.some.inj hu]
                  exact HR.out
              case measure => simp [intOf]; omega
            | false =>
              (repeat (first | (refine Txt.tl_pure (v := ?_) (by rfl) ?_ ?_; rotate_left; (focus (intro _; go_simp; try with_reducible rfl)); simp only [Act.put, List.setIfInBounds_toArray, List.set_cons_zero, List.set_cons_succ]) | (refine Txt.tl_load (v := ?_) (by rfl) (by rfl) (by rfl) (by kernel_rfl) ?_ ?_; rotate_left; (focus assumption); simp only [Act.put, List.setIfInBounds_toArray, List.set_cons_zero, List.set_cons_succ]) | (refine Txt.tl_rowN (n := 32) (ty := 35) (by rfl) (by rfl) (by rfl) RY.out (by kernel_rfl) (by rw [List.length_map]; exact HYl.out) ?_; simp only [Act.put, List.setIfInBounds_toArray, List.set_cons_zero, List.set_cons_succ]) | (refine Txt.tl_rowN (n := 32) (ty := 35) (by rfl) (by rfl) (by rfl) RU.out (by kernel_rfl) (by rw [List.length_map]; exact HU.out) ?_; simp only [Act.put, List.setIfInBounds_toArray, List.set_cons_zero, List.set_cons_succ]) | (refine Txt.tl_skip (by rfl) trivial ?_; simp only [Act.put, List.setIfInBounds_toArray, List.set_cons_zero, List.set_cons_succ])))
              refine Txt.tl_nil ?_
              have HEj : Hid (insB L y = L.take j ++ [y] ++ L.drop j) := insB_at (by rw [Hq.out]; omega) HB.out (fun u hu => by rw [Hz.out] at hu; rw [← Option.some.inj hu]; exact HR.out)
              have hkc : (j : Int) ≤ (vc : Int) := by omega
              have hkc2 : ¬ vc = j := by omega
              have A2 : Hid (∀ w', St.Own 37 66 de w' (.slice (some ⟨g1, o1, none⟩) q vc) L → St.At 66 de w' (some ⟨g1, o1 + j * 66, none⟩) (q - j) (L.drop j)) := fun w' h => (own_sl h).2.tail j (by omega)
              go_wp2_with (first | (refine St.wl_build0 encD slD rfl rfl ?_; intro o1; clear o1; have HM : Hid _ := row0 HM.out (T := 37) encD rfl; simp only [Act.put, List.setIfInBounds_toArray, List.set_cons_zero, List.set_cons_succ]) | (refine St.wl_appR (els := ([] : List Dn)) encD slD (by decide) rfl rfl rfl (HM.out.get 3 rfl) rfl ((own_sl (HM.out.get 1 rfl)).2.cut _ (by omega)) (by simp <;> omega) ?_; intro v1 w3 h1 k1 g1; have HM : Hid _ := HM.out.appR 3 rfl h1 k1 g1; clear h1 k1 g1; simp only [Act.put, List.setIfInBounds_toArray, List.set_cons_zero, List.set_cons_succ]) | ((with_reducible refine at_load 37 ?_); refine St.wl_load tyD rfl rfl rfl (HM.out.range 2 rfl) HDl.out ?_; simp only [Act.put, List.setIfInBounds_toArray, List.set_cons_zero, List.set_cons_succ]) | (refine St.wl_build slD (by decide) rfl rfl HDl.out rfl ?_; have HM : Hid _ := HM.out.alloc (.cells (de y).toArray 37) rfl; simp only [Act.put, List.setIfInBounds_toArray, List.set_cons_zero, List.set_cons_succ]) | (refine St.wl_app1z encD slD (by decide) rfl rfl rfl (HM.out.get 3 rfl) rfl y rfl (HM.out.get 4 rfl) (by simp <;> omega) ?_; intro v2 w4 h2 k2 g2; have HM : Hid _ := HM.out.appR 3 rfl h2 k2 g2; clear h2 k2 g2; simp only [Act.put, List.setIfInBounds_toArray, List.set_cons_zero, List.set_cons_succ]) | (refine St.wl_appR encD slD (by decide) rfl rfl rfl (HM.out.get 3 rfl) rfl (A2.out _ (HM.out.get 1 rfl)) (by simp <;> omega) ?_; intro v3 w5 h3 k3 g3; have HM : Hid _ := HM.out.appR 3 rfl h3 k3 g3; clear h3 k3 g3; simp only [Act.put, List.setIfInBounds_toArray, List.set_cons_zero, List.set_cons_succ]))
              go_roundw
              case rel => exact ⟨k + 1, v3, by omega, rfl, by go_num, by rw [HE.out, HEj.out]; exact HM.out.sub _ [0, 3] (by decide) rfl⟩
              case measure => simp [intOf]; omega
          · obtain rfl : q = j := by omega
            go_wp2
            have HM : Hid _ := HM.out.drew
            refine Txt.wp_region_text (fun _ => True) [0, 0, 0, 0, 0, 0, 1, 0, 1, 0, 0, 0, 0, 1, 0, 0, 0, 0, 1, 4, 0] (by kernel_rfl) (by kernel_rfl) trivial ?_
            (repeat (first | (refine Txt.tl_pure (v := ?_) (by rfl) ?_ ?_; rotate_left; (focus (intro _; go_simp; try with_reducible rfl)); simp only [Act.put, List.setIfInBounds_toArray, List.set_cons_zero, List.set_cons_succ]) | (refine Txt.tl_load (v := ?_) (by rfl) (by rfl) (by rfl) (by kernel_rfl) ?_ ?_; rotate_left; (focus assumption); simp only [Act.put, List.setIfInBounds_toArray, List.set_cons_zero, List.set_cons_succ]) | (refine Txt.tl_rowN (n := 32) (ty := 35) (by rfl) (by rfl) (by rfl) RY.out (by kernel_rfl) (by rw [List.length_map]; exact HYl.out) ?_; simp only [Act.put, List.setIfInBounds_toArray, List.set_cons_zero, List.set_cons_succ]) | (refine Txt.tl_rowN (n := 32) (ty := 35) (by rfl) (by rfl) (by rfl) RU.out (by kernel_rfl) (by rw [List.length_map]; exact HU.out) ?_; simp only [Act.put, List.setIfInBounds_toArray, List.set_cons_zero, List.set_cons_succ]) | (refine Txt.tl_skip (by rfl) trivial ?_; simp only [Act.put, List.setIfInBounds_toArray, List.set_cons_zero, List.set_cons_succ])))
            refine Txt.tl_nil ?_
            have HEj : Hid (insB L y = L.take q ++ [y] ++ L.drop q) := insB_at (by rw [Hq.out]; exact Nat.le_refl _) HB.out (fun u hu => by have := (List.getElem?_eq_some_iff.1 hu).1; rw [Hq.out] at this; omega)
            have hdn : Hid (L.drop q = []) := List.drop_eq_nil_of_le (by rw [Hq.out]; exact Nat.le_refl _)
            rcases Hf.out with ⟨rfl, rfl, rfl⟩ | ⟨g1, rfl⟩
            · have A2 : Hid (∀ w', St.Own 37 66 de w' (.slice none 0 0) L → St.At 66 de w' none 0 (L.drop 0)) := fun w' h => by rw [hdn.out]; exact (own_sl h).2.empty
              go_wp2_with (first | (refine St.wl_build0 encD slD rfl rfl ?_; intro o1; clear o1; have HM : Hid _ := row0 HM.out (T := 37) encD rfl; simp only [Act.put, List.setIfInBounds_toArray, List.set_cons_zero, List.set_cons_succ]) | (refine St.wl_appR (els := ([] : List Dn)) encD slD (by decide) rfl rfl rfl (HM.out.get 3 rfl) rfl ((own_sl (HM.out.get 1 rfl)).2.cut _ (by omega)) (by simp <;> omega) ?_; intro v1 w3 h1 k1 g1; have HM : Hid _ := HM.out.appR 3 rfl h1 k1 g1; clear h1 k1 g1; simp only [Act.put, List.setIfInBounds_toArray, List.set_cons_zero, List.set_cons_succ]) | ((with_reducible refine at_load 37 ?_); refine St.wl_load tyD rfl rfl rfl (HM.out.range 2 rfl) HDl.out ?_; simp only [Act.put, List.setIfInBounds_toArray, List.set_cons_zero, List.set_cons_succ]) | (refine St.wl_build slD (by decide) rfl rfl HDl.out rfl ?_; have HM : Hid _ := HM.out.alloc (.cells (de y).toArray 37) rfl; simp only [Act.put, List.setIfInBounds_toArray, List.set_cons_zero, List.set_cons_succ]) | (refine St.wl_app1z encD slD (by decide) rfl rfl rfl (HM.out.get 3 rfl) rfl y rfl (HM.out.get 4 rfl) (by simp <;> omega) ?_; intro v2 w4 h2 k2 g2; have HM : Hid _ := HM.out.appR 3 rfl h2 k2 g2; clear h2 k2 g2; simp only [Act.put, List.setIfInBounds_toArray, List.set_cons_zero, List.set_cons_succ]) | (refine St.wl_appR encD slD (by decide) rfl rfl rfl (HM.out.get 3 rfl) rfl (A2.out _ (HM.out.get 1 rfl)) (by simp <;> omega) ?_; intro v3 w5 h3 k3 g3; have HM : Hid _ := HM.out.appR 3 rfl h3 k3 g3; clear h3 k3 g3; simp only [Act.put, List.setIfInBounds_toArray, List.set_cons_zero, List.set_cons_succ]))
              go_roundw
              case rel => exact ⟨k + 1, v3, by omega, rfl, by go_num, by rw [HE.out, HEj.out]; exact HM.out.sub _ [0, 3] (by decide) rfl⟩
              case measure => simp [intOf]; omega
            · by_cases hkc : vc = q
              · subst hkc
                have A2 : Hid (∀ w', St.Own 37 66 de w' (.slice (some ⟨g1, 0, none⟩) vc vc) L → St.At 66 de w' (some ⟨g1, 0, none⟩) 0 (L.drop vc)) := fun w' h => by rw [hdn.out]; exact (own_sl h).2.empty
                go_wp2_with (first | (refine St.wl_build0 encD slD rfl rfl ?_; intro o1; clear o1; have HM : Hid _ := row0 HM.out (T := 37) encD rfl; simp only [Act.put, List.setIfInBounds_toArray, List.set_cons_zero, List.set_cons_succ]) | (refine St.wl_appR (els := ([] : List Dn)) encD slD (by decide) rfl rfl rfl (HM.out.get 3 rfl) rfl ((own_sl (HM.out.get 1 rfl)).2.cut _ (by omega)) (by simp <;> omega) ?_; intro v1 w3 h1 k1 g1; have HM : Hid _ := HM.out.appR 3 rfl h1 k1 g1; clear h1 k1 g1; simp only [Act.put, List.setIfInBounds_toArray, List.set_cons_zero, List.set_cons_succ]) | ((with_reducible refine at_load 37 ?_); refine St.wl_load tyD rfl rfl rfl (HM.out.range 2 rfl) HDl.out ?_; simp only [Act.put, List.setIfInBounds_toArray, List.set_cons_zero, List.set_cons_succ]) | (refine St.wl_build slD (by decide) rfl rfl HDl.out rfl ?_; have HM : Hid _ := HM.out.alloc (.cells (de y).toArray 37) rfl; simp only [Act.put, List.setIfInBounds_toArray, List.set_cons_zero, List.set_cons_succ]) | (refine St.wl_app1z encD slD (by decide) rfl rfl rfl (HM.out.get 3 rfl) rfl y rfl (HM.out.get 4 rfl) (by simp <;> omega) ?_; intro v2 w4 h2 k2 g2; have HM : Hid _ := HM.out.appR 3 rfl h2 k2 g2; clear h2 k2 g2; simp only [Act.put, List.setIfInBounds_toArray, List.set_cons_zero, List.set_cons_succ]) | (refine St.wl_appR encD slD (by decide) rfl rfl rfl (HM.out.get 3 rfl) rfl (A2.out _ (HM.out.get 1 rfl)) (by simp <;> omega) ?_; intro v3 w5 h3 k3 g3; have HM : Hid _ := HM.out.appR 3 rfl h3 k3 g3; clear h3 k3 g3; simp only [Act.put, List.setIfInBounds_toArray, List.set_cons_zero, List.set_cons_succ]))
                go_roundw
                case rel => exact ⟨k + 1, v3, by omega, rfl, by go_num, by rw [HE.out, HEj.out]; exact HM.out.sub _ [0, 3] (by decide) rfl⟩
                case measure => simp [intOf]; omega
              · have hnc' : (q : Int) ≤ (vc : Int) := by omega
                have A2 : Hid (∀ w', St.Own 37 66 de w' (.slice (some ⟨g1, 0, none⟩) q vc) L → St.At 66 de w' (some ⟨g1, q * 66, none⟩) 0 (L.drop q)) := fun w' h => by rw [hdn.out]; exact (own_sl h).2.empty
                go_wp2_with (first | (refine St.wl_build0 encD slD rfl rfl ?_; intro o1; clear o1; have HM : Hid _ := row0 HM.out (T := 37) encD rfl; simp only [Act.put, List.setIfInBounds_toArray, List.set_cons_zero, List.set_cons_succ]) | (refine St.wl_appR (els := ([] : List Dn)) encD slD (by decide) rfl rfl rfl (HM.out.get 3 rfl) rfl ((own_sl (HM.out.get 1 rfl)).2.cut _ (by omega)) (by simp <;> omega) ?_; intro v1 w3 h1 k1 g1; have HM : Hid _ := HM.out.appR 3 rfl h1 k1 g1; clear h1 k1 g1; simp only [Act.put, List.setIfInBounds_toArray, List.set_cons_zero, List.set_cons_succ]) | ((with_reducible refine at_load 37 ?_); refine St.wl_load tyD rfl rfl rfl (HM.out.range 2 rfl) HDl.out ?_; simp only [Act.put, List.setIfInBounds_toArray, List.set_cons_zero, List.set_cons_succ]) | (refine St.wl_build slD (by decide) rfl rfl HDl.out rfl ?_; have HM : Hid _ := HM.out.alloc (.cells (de y).toArray 37) rfl; simp only [Act.put, List.setIfInBounds_toArray, List.set_cons_zero, List.set_cons_succ]) | (refine St.wl_app1z encD slD (by decide) rfl rfl rfl (HM.out.get 3 rfl) rfl y rfl (HM.out.get 4 rfl) (by simp <;> omega) ?_; intro v2 w4 h2 k2 g2; have HM : Hid _ := HM.out.appR 3 rfl h2 k2 g2; clear h2 k2 g2; simp only [Act.put, List.setIfInBounds_toArray, List.set_cons_zero, List.set_cons_succ]) | (refine St.wl_appR encD slD (by decide) rfl rfl rfl (HM.out.get 3 rfl) rfl (A2.out _ (HM.out.get 1 rfl)) (by simp <;> omega) ?_; intro v3 w5 h3 k3 g3; have HM : Hid _ := HM.out.appR 3 rfl h3 k3 g3; clear h3 k3 g3; simp only [Act.put, List.setIfInBounds_toArray, List.set_cons_zero, List.set_cons_succ]))
                go_roundw
                case rel => exact ⟨k + 1, v3, by omega, rfl, by go_num, by rw [HE.out, HEj.out]; exact HM.out.sub _ [0, 3] (by decide) rfl⟩
                case measure => simp [intOf]; omega
      · have hp' : (y.x.r == r) = false := by simpa using hp
        have HE : Hid (behD (X.take (k + 1)) r = behD (X.take k) r) := beh_out Hy.out hp
        rw [hp'] at hz
        clear hp hp'
        go_wp2_with (first | ((with_reducible refine at_load 37 ?_); refine St.wl_load tyD rfl rfl rfl Ry.out HDl.out ?_; simp only [Act.put, List.setIfInBounds_toArray, List.set_cons_zero, List.set_cons_succ]) | ((with_reducible refine at_alloc 37 ?_); refine St.wl_alloc tyD rfl rfl (by (try simp only [World.size_alloc]); rfl) ?_; simp only [Act.put, List.setIfInBounds_toArray, List.set_cons_zero, List.set_cons_succ]) | ((with_reducible refine at_store 37 ?_); refine St.wl_storeN (W := wo) tyD rfl rfl rfl rfl rfl (by (try simp only [World.size_alloc])) (show _ = Value.agg (de y).toArray from rfl) HDs.out rfl HD1.out ?_) | ((with_reducible refine at_load 35 ?_); first | (refine wl_loadG (by rfl) rfl rfl HYr.out RR.out ?_; simp only [Act.put, List.setIfInBounds_toArray, List.set_cons_zero, List.set_cons_succ]) | (refine wl_loadG (by rfl) rfl rfl HRl.out RB.out ?_; simp only [Act.put, List.setIfInBounds_toArray, List.set_cons_zero, List.set_cons_succ])))
        go_roundw
        case rel => exact ⟨k + 1, _, by omega, rfl, by go_num, by rw [HE.out]; exact HM.out.take 2⟩
        case measure => simp [intOf]; omega
    · obtain rfl : n = k := by omega
      have HE : Hid (X.take n = X) := List.take_of_length_le (by rw [Hn.out]; exact Nat.le_refl _)
      have HM := HM.out
      rw [HE.out] at HM
      have HM : Hid _ := HM
      go_wp2
      go_ret
      exact ⟨_, rfl, HM.out.get 1 rfl, HM.out.keep, fun k hk => (HM.out.rng 1 _ rfl k hk).1.resolve_right (fun h => h)⟩
end Sq
end Go.Proofs.Ytgpimeobkacniaa
