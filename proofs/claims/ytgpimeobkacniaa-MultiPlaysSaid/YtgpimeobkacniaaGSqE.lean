/-
  The document's Behind. The document's Order, Ids, List. seq.ids, seq.deleted: the keys of a map, rising.
-/
import Derived.Test.YtgpimeobkacniaaSqZ
import Derived.Test.YtgpimeobkacniaaSqB
import Derived.Maps.RangeWalk
set_option linter.unusedVariables false
set_option linter.unusedSimpArgs false

namespace Go.Proofs.Ytgpimeobkacniaa
open Go.RowKit
namespace Sq
open Oct Ids Mp
open Mem (M It blk ids rows)
/-- A new row of nodes. -/
structure BehPost (w : World) (L : List Dn) (e : Ending) (w' : World) : Prop where
  ex : ∃ v, e = .returned v ∧ St.New 37 66 de w w' v L
set_option maxRecDepth 100000 in
set_option maxHeartbeats 16000000 in
theorem xbeh_any (w : World) (b : Nat) (lv gv : Value) (X : List Dn) (G : List Wd) (h : XsAt w b lv gv X G) (hX : X.length ≤ 1000) (r : Wd) (hr : r.length = 32) :
    Calls Try.prog 74 #[.pointer (some ⟨b, 0, none⟩), idv r] w (BehPost w (behD X r)) := by
  obtain ⟨la, lc, e0, hrow⟩ := h.row
  subst e0
  obtain ⟨n, hn⟩ : ∃ n, X.length = n := ⟨_, rfl⟩
  rw [hn] at h hrow hX
  have Hn : Hid (X.length = n) := hn
  have HXs : Hid (XsAt w b (.slice la n lc) gv X G) := h
  have HRow : Hid (St.At 66 de w la n X) := hrow
  have HRl : Hid (r.length = 32) := hr
  have HM : Hid (M (fun _ => False) w _ [blk w.heap.size (.cells (r.map bv).toArray 35)]) := (M.start _ w).alloc (.cells (r.map bv).toArray 35) rfl
  clear h hrow hr hn
  go_enter Try.func74, Try.ntmps74
  go_wp2
  have HM : Hid (M (fun _ => False) w _ [blk w.heap.size (.cells (r.map bv).toArray 35), rD (.slice none 0 0) []]) := HM.out.nilR 37 66 de
  go_loopw [5, 6] (fun s5 s6 wr => ∃ (k : Nat) (v : Value), k ≤ n ∧ s5 = v ∧ s6 = .int .i64 k ∧ M (fun _ => False) w wr [blk w.heap.size (.cells (r.map bv).toArray 35), rD v (behD (X.take k) r)]) (fun _ s6 _ => n - (intOf s6).toNat)
  case atStart => exact ⟨0, _, Nat.zero_le _, rfl, by go_num, HM.out⟩
  case round =>
    clear HM
    obtain ⟨wo, rfl⟩ : ∃ x, x = wr := ⟨wr, rfl⟩
    obtain ⟨k, v, hk, e1, rfl, hM⟩ := hrel
    replace e1 := e1.symm
    subst e1
    have HM : Hid (M (fun _ => False) w wo [blk w.heap.size (.cells (r.map bv).toArray 35), rD v (behD (X.take k) r)]) := hM
    clear hM
    have c0 := (HXs.out.calm HM.out.keep).cells.1
    by_cases hlt : k < n
    · obtain ⟨y, hy⟩ : ∃ y, X[k]? = some y := ⟨_, List.getElem?_eq_getElem (by rw [Hn.out]; exact hlt)⟩
      have Hy : Hid (X[k]? = some y) := hy
      obtain ⟨g0, o0, e0, hb0, hr0⟩ := HRow.out.lay.resolve_left (by omega)
      subst e0
      have Ry : Hid (wo.rangeAt g0 (o0 + k * 66) (de y)) := HM.out.keep.range hb0 (fun h => h) (hr0 k y hy)
      have HDl : Hid ((de y).length = 66) := de_len y
      have HDs : Hid ((de y).toArray.size = 66) := by show _ = _; rw [List.size_toArray]; exact de_len y
      have HD1 : Hid ((de y).toArray.all (·.oneCell') = true) := encD.all y
      have HYl : Hid (y.u.length = 32) := y.hu
      have HYr : Hid (y.x.r.length = 32) := y.x.hr
      have HM : Hid (M (fun _ => False) w _ [blk w.heap.size (.cells (r.map bv).toArray 35), rD v (behD (X.take k) r), blk wo.heap.size (.cells (de y).toArray 37)]) := HM.out.alloc (.cells (de y).toArray 37) rfl
      have RR : Hid _ := rng_r (HM.out.range 2 rfl)
      have RB : Hid _ := HM.out.range 0 rfl
      simp only [Nat.zero_add] at RR
      have hz : ∀ w, Sem.run Try.prog (binOp .neq 35 (idv y.x.r) (idv r)) w = .ok (.bool (!(y.x.r == r))) w := fun w => neq_id w y.x.r r y.x.hr HRl.out
      clear hr0 hy hb0
      by_cases hp : y.x.r = r
      · have hp' : (y.x.r == r) = true := by simpa using hp
        have HE : Hid (behD (X.take (k + 1)) r = insB (behD (X.take k) r) y) := beh_in Hy.out hp
        have HLk : Hid ((behD (X.take k) r).length ≤ k) := Nat.le_trans (beh_len r _ _ rfl) (List.length_take_le _ _)
        rw [hp'] at hz
        clear hp hp'
        go_wp2_with (first | ((with_reducible refine at_load 37 ?_); refine St.wl_load tyD rfl rfl rfl Ry.out HDl.out ?_; simp only [Act.put, List.setIfInBounds_toArray, List.set_cons_zero, List.set_cons_succ]) | ((with_reducible refine at_alloc 37 ?_); refine St.wl_alloc tyD rfl rfl (by (try simp only [World.size_alloc]); rfl) ?_; simp only [Act.put, List.setIfInBounds_toArray, List.set_cons_zero, List.set_cons_succ]) | ((with_reducible refine at_store 37 ?_); refine St.wl_storeN (W := wo) tyD rfl rfl rfl rfl rfl (by (try simp only [World.size_alloc])) (show _ = Value.agg (de y).toArray from rfl) HDs.out rfl HD1.out ?_) | ((with_reducible refine at_load 35 ?_); first | (refine wl_loadG (by rfl) rfl rfl HYr.out RR.out ?_; simp only [Act.put, List.setIfInBounds_toArray, List.set_cons_zero, List.set_cons_succ]) | (refine wl_loadG (by rfl) rfl rfl HRl.out RB.out ?_; simp only [Act.put, List.setIfInBounds_toArray, List.set_cons_zero, List.set_cons_succ])))
        clear hz c0 Ry RR RB
        generalize behD (X.take k) r = L at HM HE HLk
        obtain ⟨va, vc, e1, _⟩ := (show St.Own 37 66 de _ v L from HM.out.get 1 rfl).any
        subst e1
        obtain ⟨q, hq⟩ : ∃ q, L.length = q := ⟨_, rfl⟩
        have Hq : Hid (L.length = q) := hq
        rw [hq] at HM HLk ⊢
        have hq1 : q ≤ 1000 := by have := HLk.out; omega
        obtain ⟨hqc, hvm, hfm⟩ := own_fm (show St.Own 37 66 de _ (.slice va q vc) L from HM.out.get 1 rfl)
        have Hf : Hid _ := hfm
        unfold maxLen at hvm
        clear hq HLk hfm
        go_loopw [8] (fun s8 wq => ∃ (j : Nat), j ≤ q ∧ s8 = .int .i64 j ∧ M (fun _ => False) w wq [blk w.heap.size (.cells (r.map bv).toArray 35), rD (.slice va q vc) L, blk wo.heap.size (.cells (de y).toArray 37)] ∧ (∀ (i : Nat) (z : Dn), i < j → L[i]? = some z → ah y.x.h y.u z.x.h z.u = true)) (fun s8 _ => q - (intOf s8).toNat)
        case atStart => exact ⟨0, Nat.zero_le _, by go_num, HM.out, fun i z hi => absurd hi (Nat.not_lt_zero _)⟩
        case round =>
          clear HM
          obtain ⟨j, hj, rfl, hM, hb⟩ := hrel
          have HM : Hid (M (fun _ => False) w wr [blk w.heap.size (.cells (r.map bv).toArray 35), rD (.slice va q vc) L, blk wo.heap.size (.cells (de y).toArray 37)]) := hM
          have HB : Hid (∀ (i : Nat) (z : Dn), i < j → L[i]? = some z → ah y.x.h y.u z.x.h z.u = true) := hb
          clear hM hb
          by_cases hlt2 : j < q
          · obtain ⟨z, hz⟩ : ∃ z, L[j]? = some z := ⟨_, List.getElem?_eq_getElem (by rw [Hq.out]; exact hlt2)⟩
            have Hz : Hid (L[j]? = some z) := hz
            have HU : Hid (z.u.length = 32) := z.hu
            obtain ⟨g1, o1, e1, _, hr1⟩ := (own_sl (show St.Own 37 66 de _ (.slice va q vc) L from HM.out.get 1 rfl)).2.lay.resolve_left (by omega)
            subst e1
            clear hr1 hz
            go_wp2
            have HM : Hid _ := HM.out.drew
            have RZ := (own_sl (show St.Own 37 66 de _ (.slice (some ⟨g1, o1, none⟩) q vc) L from HM.out.get 1 rfl)).2.lay.resolve_left (by omega) |> fun ⟨_, _, e, _, hr⟩ => (by cases e; exact hr j z Hz.out : World.rangeAt _ g1 (o1 + j * 66) (de z))
            have RU : Hid _ := rng_u RZ
            have e32 := rng_h RZ
            have RY : Hid _ := rng_u (HM.out.range 2 rfl)
            have d32 := rng_h (HM.out.range 2 rfl)
            simp only [Nat.zero_add] at d32
            obtain ⟨r2, hr2⟩ : ∃ r, ah y.x.h y.u z.x.h z.u = r := ⟨_, rfl⟩
            have HR : Hid (ah y.x.h y.u z.x.h z.u = r2) := hr2
            have HAh : Hid (∀ w, Calls Try.prog 18 #[.int .i64 y.x.h, idv y.u, .int .i64 z.x.h, idv z.u] w fun e w' => e = .returned (.bool r2) ∧ Keep (fun _ => False) w w') := fun w => xahead_any w y.x.h z.x.h y.u z.u y.hu z.hu r2 hr2
            clear RZ hr2
            refine Txt.wp_region_text (fun _ => True) [0, 0, 0, 0, 0, 0, 1, 0, 1, 0, 0, 0, 0, 1, 0, 0, 0, 0, 1, 4, 0] (by kernel_rfl) (by kernel_rfl) trivial ?_
            (repeat (first | (refine Txt.tl_pure (v := ?_) (by rfl) ?_ ?_; rotate_left; (focus (intro _; go_simp; try with_reducible rfl)); simp only [Act.put, List.setIfInBounds_toArray, List.set_cons_zero, List.set_cons_succ]) | (refine Txt.tl_load (v := ?_) (by rfl) (by rfl) (by rfl) (by kernel_rfl) ?_ ?_; rotate_left; (focus assumption); simp only [Act.put, List.setIfInBounds_toArray, List.set_cons_zero, List.set_cons_succ]) | (refine Txt.tl_rowN (n := 32) (ty := 35) (by rfl) (by rfl) (by rfl) RY.out (by kernel_rfl) (by rw [List.length_map]; exact HYl.out) ?_; simp only [Act.put, List.setIfInBounds_toArray, List.set_cons_zero, List.set_cons_succ]) | (refine Txt.tl_rowN (n := 32) (ty := 35) (by rfl) (by rfl) (by rfl) RU.out (by kernel_rfl) (by rw [List.length_map]; exact HU.out) ?_; simp only [Act.put, List.setIfInBounds_toArray, List.set_cons_zero, List.set_cons_succ]) | (refine Txt.tl_skip (by rfl) trivial ?_; simp only [Act.put, List.setIfInBounds_toArray, List.set_cons_zero, List.set_cons_succ])))
            refine Txt.tl_call Try.func18 (by kernel_rfl) (by kernel_rfl) (by rfl) (by rfl) (by rfl) (HAh.out _) ?_
            rintro e w2 ⟨rfl, k2⟩
            have HM : Hid _ := HM.out.calm k2
            clear k2 HAh
            refine ⟨_, rfl, trivial, ?_⟩
            simp only [Act.put, List.setIfInBounds_toArray, List.set_cons_zero, List.set_cons_succ]
            cases r2 with
            | true =>
              (repeat (first | (refine Txt.tl_pure (v := ?_) (by rfl) ?_ ?_; rotate_left; (focus (intro _; go_simp; try with_reducible rfl)); simp only [Act.put, List.setIfInBounds_toArray, List.set_cons_zero, List.set_cons_succ]) | (refine Txt.tl_load (v := ?_) (by rfl) (by rfl) (by rfl) (by kernel_rfl) ?_ ?_; rotate_left; (focus assumption); simp only [Act.put, List.setIfInBounds_toArray, List.set_cons_zero, List.set_cons_succ]) | (refine Txt.tl_rowN (n := 32) (ty := 35) (by rfl) (by rfl) (by rfl) RY.out (by kernel_rfl) (by rw [List.length_map]; exact HYl.out) ?_; simp only [Act.put, List.setIfInBounds_toArray, List.set_cons_zero, List.set_cons_succ]) | (refine Txt.tl_rowN (n := 32) (ty := 35) (by rfl) (by rfl) (by rfl) RU.out (by kernel_rfl) (by rw [List.length_map]; exact HU.out) ?_; simp only [Act.put, List.setIfInBounds_toArray, List.set_cons_zero, List.set_cons_succ]) | (refine Txt.tl_skip (by rfl) trivial ?_; simp only [Act.put, List.setIfInBounds_toArray, List.set_cons_zero, List.set_cons_succ])))
              refine Txt.tl_nil ?_
              go_wp2
              go_roundw
              case rel =>
                refine ⟨j + 1, by omega, by go_num, HM.out, fun i u hi hu => ?_⟩
                rcases Nat.lt_or_ge i j with h1 | h1
                · exact HB.out i u h1 hu
                · obtain rfl : i = j := by omega
                  rw [Hz.out] at hu
                  rw [← Option.some.inj hu]
                  exact HR.out
              case measure => simp [intOf]; omega
            | false =>
              (repeat (first | (refine Txt.tl_pure (v := ?_) (by rfl) ?_ ?_; rotate_left; (focus (intro _; go_simp; try with_reducible rfl)); simp only [Act.put, List.setIfInBounds_toArray, List.set_cons_zero, List.set_cons_succ]) | (refine Txt.tl_load (v := ?_) (by rfl) (by rfl) (by rfl) (by kernel_rfl) ?_ ?_; rotate_left; (focus assumption); simp only [Act.put, List.setIfInBounds_toArray, List.set_cons_zero, List.set_cons_succ]) | (refine Txt.tl_rowN (n := 32) (ty := 35) (by rfl) (by rfl) (by rfl) RY.out (by kernel_rfl) (by rw [List.length_map]; exact HYl.out) ?_; simp only [Act.put, List.setIfInBounds_toArray, List.set_cons_zero, List.set_cons_succ]) | (refine Txt.tl_rowN (n := 32) (ty := 35) (by rfl) (by rfl) (by rfl) RU.out (by kernel_rfl) (by rw [List.length_map]; exact HU.out) ?_; simp only [Act.put, List.setIfInBounds_toArray, List.set_cons_zero, List.set_cons_succ]) | (refine Txt.tl_skip (by rfl) trivial ?_; simp only [Act.put, List.setIfInBounds_toArray, List.set_cons_zero, List.set_cons_succ])))
              refine Txt.tl_nil ?_
              have HEj : Hid (insB L y = L.take j ++ [y] ++ L.drop j) := insB_at (by rw [Hq.out]; omega) HB.out (fun u hu => by rw [Hz.out] at hu; rw [← Option.some.inj hu]; exact HR.out)
              have hkc : (j : Int) ≤ (vc : Int) := by omega
              have hkc2 : ¬ vc = j := by omega
              have A2 : Hid (∀ w', St.Own 37 66 de w' (.slice (some ⟨g1, o1, none⟩) q vc) L → St.At 66 de w' (some ⟨g1, o1 + j * 66, none⟩) (q - j) (L.drop j)) := fun w' h => (own_sl h).2.tail j (by omega)
              go_wp2_with (first | (refine St.wl_build0 encD slD rfl rfl ?_; intro o1; clear o1; have HM : Hid _ := row0 HM.out (T := 37) encD rfl; simp only [Act.put, List.setIfInBounds_toArray, List.set_cons_zero, List.set_cons_succ]) | (refine St.wl_appR (els := ([] : List Dn)) encD slD (by decide) rfl rfl rfl (HM.out.get 3 rfl) rfl ((own_sl (HM.out.get 1 rfl)).2.cut _ (by omega)) (by simp <;> omega) ?_; intro v1 w3 h1 k1 g1; have HM : Hid _ := HM.out.appR 3 rfl h1 k1 g1; clear h1 k1 g1; simp only [Act.put, List.setIfInBounds_toArray, List.set_cons_zero, List.set_cons_succ]) | ((with_reducible refine at_load 37 ?_); refine St.wl_load tyD rfl rfl rfl (HM.out.range 2 rfl) HDl.out ?_; simp only [Act.put, List.setIfInBounds_toArray, List.set_cons_zero, List.set_cons_succ]) | (refine St.wl_build slD (by decide) rfl rfl HDl.out rfl ?_; have HM : Hid _ := HM.out.alloc (.cells (de y).toArray 37) rfl; simp only [Act.put, List.setIfInBounds_toArray, List.set_cons_zero, List.set_cons_succ]) | (refine St.wl_app1z encD slD (by decide) rfl rfl rfl (HM.out.get 3 rfl) rfl y rfl (HM.out.get 4 rfl) (by simp <;> omega) ?_; intro v2 w4 h2 k2 g2; have HM : Hid _ := HM.out.appR 3 rfl h2 k2 g2; clear h2 k2 g2; simp only [Act.put, List.setIfInBounds_toArray, List.set_cons_zero, List.set_cons_succ]) | (refine St.wl_appR encD slD (by decide) rfl rfl rfl (HM.out.get 3 rfl) rfl (A2.out _ (HM.out.get 1 rfl)) (by simp <;> omega) ?_; intro v3 w5 h3 k3 g3; have HM : Hid _ := HM.out.appR 3 rfl h3 k3 g3; clear h3 k3 g3; simp only [Act.put, List.setIfInBounds_toArray, List.set_cons_zero, List.set_cons_succ]))
              go_roundw
              case rel => exact ⟨k + 1, v3, by omega, rfl, by go_num, by rw [HE.out, HEj.out]; exact HM.out.sub _ [0, 3] (by decide) rfl⟩
              case measure => simp [intOf]; omega
          · obtain rfl : q = j := by omega
            go_wp2
            have HM : Hid _ := HM.out.drew
            refine Txt.wp_region_text (fun _ => True) [0, 0, 0, 0, 0, 0, 1, 0, 1, 0, 0, 0, 0, 1, 0, 0, 0, 0, 1, 4, 0] (by kernel_rfl) (by kernel_rfl) trivial ?_
            (repeat (first | (refine Txt.tl_pure (v := ?_) (by rfl) ?_ ?_; rotate_left; (focus (intro _; go_simp; try with_reducible rfl)); simp only [Act.put, List.setIfInBounds_toArray, List.set_cons_zero, List.set_cons_succ]) | (refine Txt.tl_load (v := ?_) (by rfl) (by rfl) (by rfl) (by kernel_rfl) ?_ ?_; rotate_left; (focus assumption); simp only [Act.put, List.setIfInBounds_toArray, List.set_cons_zero, List.set_cons_succ]) | (refine Txt.tl_rowN (n := 32) (ty := 35) (by rfl) (by rfl) (by rfl) RY.out (by kernel_rfl) (by rw [List.length_map]; exact HYl.out) ?_; simp only [Act.put, List.setIfInBounds_toArray, List.set_cons_zero, List.set_cons_succ]) | (refine Txt.tl_rowN (n := 32) (ty := 35) (by rfl) (by rfl) (by rfl) RU.out (by kernel_rfl) (by rw [List.length_map]; exact HU.out) ?_; simp only [Act.put, List.setIfInBounds_toArray, List.set_cons_zero, List.set_cons_succ]) | (refine Txt.tl_skip (by rfl) trivial ?_; simp only [Act.put, List.setIfInBounds_toArray, List.set_cons_zero, List.set_cons_succ])))
            refine Txt.tl_nil ?_
            have HEj : Hid (insB L y = L.take q ++ [y] ++ L.drop q) := insB_at (by rw [Hq.out]; exact Nat.le_refl _) HB.out (fun u hu => by have := (List.getElem?_eq_some_iff.1 hu).1; rw [Hq.out] at this; omega)
            have hdn : Hid (L.drop q = []) := List.drop_eq_nil_of_le (by rw [Hq.out]; exact Nat.le_refl _)
            rcases Hf.out with ⟨rfl, rfl, rfl⟩ | ⟨g1, rfl⟩
            · have A2 : Hid (∀ w', St.Own 37 66 de w' (.slice none 0 0) L → St.At 66 de w' none 0 (L.drop 0)) := fun w' h => by rw [hdn.out]; exact (own_sl h).2.empty
              go_wp2_with (first | (refine St.wl_build0 encD slD rfl rfl ?_; intro o1; clear o1; have HM : Hid _ := row0 HM.out (T := 37) encD rfl; simp only [Act.put, List.setIfInBounds_toArray, List.set_cons_zero, List.set_cons_succ]) | (refine St.wl_appR (els := ([] : List Dn)) encD slD (by decide) rfl rfl rfl (HM.out.get 3 rfl) rfl ((own_sl (HM.out.get 1 rfl)).2.cut _ (by omega)) (by simp <;> omega) ?_; intro v1 w3 h1 k1 g1; have HM : Hid _ := HM.out.appR 3 rfl h1 k1 g1; clear h1 k1 g1; simp only [Act.put, List.setIfInBounds_toArray, List.set_cons_zero, List.set_cons_succ]) | ((with_reducible refine at_load 37 ?_); refine St.wl_load tyD rfl rfl rfl (HM.out.range 2 rfl) HDl.out ?_; simp only [Act.put, List.setIfInBounds_toArray, List.set_cons_zero, List.set_cons_succ]) | (refine St.wl_build slD (by decide) rfl rfl HDl.out rfl ?_; have HM : Hid _ := HM.out.alloc (.cells (de y).toArray 37) rfl; simp only [Act.put, List.setIfInBounds_toArray, List.set_cons_zero, List.set_cons_succ]) | (refine St.wl_app1z encD slD (by decide) rfl rfl rfl (HM.out.get 3 rfl) rfl y rfl (HM.out.get 4 rfl) (by simp <;> omega) ?_; intro v2 w4 h2 k2 g2; have HM : Hid _ := HM.out.appR 3 rfl h2 k2 g2; clear h2 k2 g2; simp only [Act.put, List.setIfInBounds_toArray, List.set_cons_zero, List.set_cons_succ]) | (refine St.wl_appR encD slD (by decide) rfl rfl rfl (HM.out.get 3 rfl) rfl (A2.out _ (HM.out.get 1 rfl)) (by simp <;> omega) ?_; intro v3 w5 h3 k3 g3; have HM : Hid _ := HM.out.appR 3 rfl h3 k3 g3; clear h3 k3 g3; simp only [Act.put, List.setIfInBounds_toArray, List.set_cons_zero, List.set_cons_succ]))
              go_roundw
              case rel => exact ⟨k + 1, v3, by omega, rfl, by go_num, by rw [HE.out, HEj.out]; exact HM.out.sub _ [0, 3] (by decide) rfl⟩
              case measure => simp [intOf]; omega
            · by_cases hkc : vc = q
              · subst hkc
                have A2 : Hid (∀ w', St.Own 37 66 de w' (.slice (some ⟨g1, 0, none⟩) vc vc) L → St.At 66 de w' (some ⟨g1, 0, none⟩) 0 (L.drop vc)) := fun w' h => by rw [hdn.out]; exact (own_sl h).2.empty
                go_wp2_with (first | (refine St.wl_build0 encD slD rfl rfl ?_; intro o1; clear o1; have HM : Hid _ := row0 HM.out (T := 37) encD rfl; simp only [Act.put, List.setIfInBounds_toArray, List.set_cons_zero, List.set_cons_succ]) | (refine St.wl_appR (els := ([] : List Dn)) encD slD (by decide) rfl rfl rfl (HM.out.get 3 rfl) rfl ((own_sl (HM.out.get 1 rfl)).2.cut _ (by omega)) (by simp <;> omega) ?_; intro v1 w3 h1 k1 g1; have HM : Hid _ := HM.out.appR 3 rfl h1 k1 g1; clear h1 k1 g1; simp only [Act.put, List.setIfInBounds_toArray, List.set_cons_zero, List.set_cons_succ]) | ((with_reducible refine at_load 37 ?_); refine St.wl_load tyD rfl rfl rfl (HM.out.range 2 rfl) HDl.out ?_; simp only [Act.put, List.setIfInBounds_toArray, List.set_cons_zero, List.set_cons_succ]) | (refine St.wl_build slD (by decide) rfl rfl HDl.out rfl ?_; have HM : Hid _ := HM.out.alloc (.cells (de y).toArray 37) rfl; simp only [Act.put, List.setIfInBounds_toArray, List.set_cons_zero, List.set_cons_succ]) | (refine St.wl_app1z encD slD (by decide) rfl rfl rfl (HM.out.get 3 rfl) rfl y rfl (HM.out.get 4 rfl) (by simp <;> omega) ?_; intro v2 w4 h2 k2 g2; have HM : Hid _ := HM.out.appR 3 rfl h2 k2 g2; clear h2 k2 g2; simp only [Act.put, List.setIfInBounds_toArray, List.set_cons_zero, List.set_cons_succ]) | (refine St.wl_appR encD slD (by decide) rfl rfl rfl (HM.out.get 3 rfl) rfl (A2.out _ (HM.out.get 1 rfl)) (by simp <;> omega) ?_; intro v3 w5 h3 k3 g3; have HM : Hid _ := HM.out.appR 3 rfl h3 k3 g3; clear h3 k3 g3; simp only [Act.put, List.setIfInBounds_toArray, List.set_cons_zero, List.set_cons_succ]))
                go_roundw
                case rel => exact ⟨k + 1, v3, by omega, rfl, by go_num, by rw [HE.out, HEj.out]; exact HM.out.sub _ [0, 3] (by decide) rfl⟩
                case measure => simp [intOf]; omega
              · have hnc' : (q : Int) ≤ (vc : Int) := by omega
                have A2 : Hid (∀ w', St.Own 37 66 de w' (.slice (some ⟨g1, 0, none⟩) q vc) L → St.At 66 de w' (some ⟨g1, q * 66, none⟩) 0 (L.drop q)) := fun w' h => by rw [hdn.out]; exact (own_sl h).2.empty
                go_wp2_with (first | (refine St.wl_build0 encD slD rfl rfl ?_; intro o1; clear o1; have HM : Hid _ := row0 HM.out (T := 37) encD rfl; simp only [Act.put, List.setIfInBounds_toArray, List.set_cons_zero, List.set_cons_succ]) | (refine St.wl_appR (els := ([] : List Dn)) encD slD (by decide) rfl rfl rfl (HM.out.get 3 rfl) rfl ((own_sl (HM.out.get 1 rfl)).2.cut _ (by omega)) (by simp <;> omega) ?_; intro v1 w3 h1 k1 g1; have HM : Hid _ := HM.out.appR 3 rfl h1 k1 g1; clear h1 k1 g1; simp only [Act.put, List.setIfInBounds_toArray, List.set_cons_zero, List.set_cons_succ]) | ((with_reducible refine at_load 37 ?_); refine St.wl_load tyD rfl rfl rfl (HM.out.range 2 rfl) HDl.out ?_; simp only [Act.put, List.setIfInBounds_toArray, List.set_cons_zero, List.set_cons_succ]) | (refine St.wl_build slD (by decide) rfl rfl HDl.out rfl ?_; have HM : Hid _ := HM.out.alloc (.cells (de y).toArray 37) rfl; simp only [Act.put, List.setIfInBounds_toArray, List.set_cons_zero, List.set_cons_succ]) | (refine St.wl_app1z encD slD (by decide) rfl rfl rfl (HM.out.get 3 rfl) rfl y rfl (HM.out.get 4 rfl) (by simp <;> omega) ?_; intro v2 w4 h2 k2 g2; have HM : Hid _ := HM.out.appR 3 rfl h2 k2 g2; clear h2 k2 g2; simp only [Act.put, List.setIfInBounds_toArray, List.set_cons_zero, List.set_cons_succ]) | (refine St.wl_appR encD slD (by decide) rfl rfl rfl (HM.out.get 3 rfl) rfl (A2.out _ (HM.out.get 1 rfl)) (by simp <;> omega) ?_; intro v3 w5 h3 k3 g3; have HM : Hid _ := HM.out.appR 3 rfl h3 k3 g3; clear h3 k3 g3; simp only [Act.put, List.setIfInBounds_toArray, List.set_cons_zero, List.set_cons_succ]))
                go_roundw
                case rel => exact ⟨k + 1, v3, by omega, rfl, by go_num, by rw [HE.out, HEj.out]; exact HM.out.sub _ [0, 3] (by decide) rfl⟩
                case measure => simp [intOf]; omega
      · have hp' : (y.x.r == r) = false := by simpa using hp
        have HE : Hid (behD (X.take (k + 1)) r = behD (X.take k) r) := beh_out Hy.out hp
        rw [hp'] at hz
        clear hp hp'
        go_wp2_with (first | ((with_reducible refine at_load 37 ?_); refine St.wl_load tyD rfl rfl rfl Ry.out HDl.out ?_; simp only [Act.put, List.setIfInBounds_toArray, List.set_cons_zero, List.set_cons_succ]) | ((with_reducible refine at_alloc 37 ?_); refine St.wl_alloc tyD rfl rfl (by (try simp only [World.size_alloc]); rfl) ?_; simp only [Act.put, List.setIfInBounds_toArray, List.set_cons_zero, List.set_cons_succ]) | ((with_reducible refine at_store 37 ?_); refine St.wl_storeN (W := wo) tyD rfl rfl rfl rfl rfl (by (try simp only [World.size_alloc])) (show _ = Value.agg (de y).toArray from rfl) HDs.out rfl HD1.out ?_) | ((with_reducible refine at_load 35 ?_); first | (refine wl_loadG (by rfl) rfl rfl HYr.out RR.out ?_; simp only [Act.put, List.setIfInBounds_toArray, List.set_cons_zero, List.set_cons_succ]) | (refine wl_loadG (by rfl) rfl rfl HRl.out RB.out ?_; simp only [Act.put, List.setIfInBounds_toArray, List.set_cons_zero, List.set_cons_succ])))
        go_roundw
        case rel => exact ⟨k + 1, _, by omega, rfl, by go_num, by rw [HE.out]; exact HM.out.take 2⟩
        case measure => simp [intOf]; omega
    · obtain rfl : n = k := by omega
      have HE : Hid (X.take n = X) := List.take_of_length_le (by rw [Hn.out]; exact Nat.le_refl _)
      have HM := HM.out
      rw [HE.out] at HM
      have HM : Hid _ := HM
      go_wp2
      go_ret
      exact ⟨_, rfl, HM.out.get 1 rfl, HM.out.keep, fun k hk => (HM.out.rng 1 _ rfl k hk).1.resolve_right (fun h => h)⟩
end Sq
end Go.Proofs.Ytgpimeobkacniaa


namespace Go.Proofs.Ytgpimeobkacniaa
open Go.RowKit
namespace Sq
open Oct Ids Mp
open Mem (M It blk ids rows)
def lnv : Value → Nat
  | .slice _ n _ => n
  | _ => 0
theorem M.newr {F : Nat → Prop} {w0 w w' : World} {it : List It} (h : M F w0 w it) {α : Type} {T : TypeId} {n : Nat} {enc : α → List Value} {v : Value} {L : List α} (m : St.New T n enc w w' v L) : M F w0 w' (it ++ [rows T n enc v L]) :=
  h.add (x := rows T n enc v L) m.2.1 m.1 (fun k hk => ⟨m.2.2 k hk, m.1.lt hk⟩)
/-- What the document's Order comes to. -/
structure XOrdPost (w : World) (X : List Dn) (N : Nds) (B : Bhs) (e : Ending) (w' : World) : Prop where
  ex : ∃ (O : List Dn) (v : Value), e = .returned v ∧ St.New 37 66 de w w' v O ∧ OrdD X N B O
set_option maxRecDepth 100000 in
set_option maxHeartbeats 16000000 in
theorem xord_any (w : World) (b : Nat) (lv gv : Value) (X : List Dn) (G : List Wd) (h : XsAt w b lv gv X G) (hX : X.length ≤ 1000) (N : Nds) (B : Bhs) (hi : Inv N B) (ha : Alk X N) :
    Calls Try.prog 39 #[.pointer (some ⟨b, 0, none⟩)] w (XOrdPost w X N B) := by
  have HBe : Hid (∀ (w1 : World) (r : Wd), r.length = 32 → Keep (fun _ => False) w w1 → Calls Try.prog 74 #[.pointer (some ⟨b, 0, none⟩), idv r] w1 (BehPost w1 (behD X r))) := fun w1 r hr k => xbeh_any w1 b lv gv X G (h.calm k) hX r hr
  have HI : Hid (Inv N B) := hi
  have HA : Hid (Alk X N) := ha
  have HN : Hid (N.length ≤ 1000) := by show _ ≤ _; rw [← ha.len]; exact hX
  have HM : Hid (M (fun _ => False) w w [rD (.slice none 0 0) []]) := (M.start _ w).nilR 37 66 de
  clear h hi ha hX
  go_enter Try.func39, Try.ntmps39
  go_wp2_with (first | (refine wl_buildZ (by rfl) rfl ?_; simp only [Act.put, List.setIfInBounds_toArray, List.set_cons_zero, List.set_cons_succ]) | (go_at_call 74; refine (show Calls Try.prog 74 #[.pointer (some ⟨b, 0, none⟩), .agg z32] w (BehPost w (behD X Zi)) from HBe.out w Zi rfl (Keep.refl _ _)).mono ?_; rintro e w1 ⟨v1, rfl, m1⟩; have HM : Hid (M (fun _ => False) w w1 [rD (.slice none 0 0) [], rD v1 (behD X Zi)]) := M.newr HM.out m1; clear m1))
  go_loopw [3, 4] (fun s3 s4 wr => ∃ (P R : List Dn) (vo vr : Value), s3 = vo ∧ s4 = vr ∧ M (fun _ => False) w wr [rD vo P, rD vr R] ∧ OrdI X N B P R) (fun s3 _ _ => N.length - lnv s3)
  case atStart => exact ⟨[], behD X Zi, _, _, rfl, rfl, HM.out, OrdI.start HI.out HA.out⟩
  case round =>
    clear HM
    obtain ⟨P, R, vo, vr, e1, e2, hM, hO⟩ := hrel
    replace e1 := e1.symm
    replace e2 := e2.symm
    subst e1
    subst e2
    have HM : Hid (M (fun _ => False) w wr [rD vo P, rD vr R]) := hM
    have HO : Hid (OrdI X N B P R) := hO
    have HPR : Hid (P.length + R.length ≤ N.length) := hO.len HI.out
    clear hM hO
    obtain ⟨ra, rc, e2, _⟩ := (show St.Own 37 66 de wr vr R from HM.out.get 1 rfl).any
    subst e2
    obtain ⟨oa, oc, e1, _⟩ := (show St.Own 37 66 de wr vo P from HM.out.get 0 rfl).any
    subst e1
    obtain ⟨q, hq⟩ : ∃ q, P.length = q := ⟨_, rfl⟩
    have Hq : Hid (P.length = q) := hq
    rw [hq] at HM HPR ⊢
    clear hq
    cases R with
    | nil =>
      go_wp2
      go_ret
      exact ⟨P, _, rfl, ⟨HM.out.get 0 rfl, HM.out.keep, fun k hk => (HM.out.rng 0 _ rfl k hk).1.resolve_right (fun h => h)⟩, HO.out.stop⟩
    | cons d R =>
      obtain ⟨n, hn⟩ : ∃ n, (d :: R).length = n := ⟨_, rfl⟩
      have Hn : Hid ((d :: R).length = n) := hn
      have hn1 : 0 < n := by rw [← hn]; exact Nat.succ_pos _
      rw [hn] at HM HPR ⊢
      have hqN : q + n ≤ N.length := HPR.out
      obtain ⟨hqc, hvm, hfm⟩ := own_fm (show St.Own 37 66 de _ (.slice ra n rc) (d :: R) from HM.out.get 1 rfl)
      obtain ⟨g0, e0⟩ := hfm.resolve_left (fun h => by omega)
      subst e0
      unfold maxLen at hvm
      have Rd : Hid (wr.rangeAt g0 0 (de d)) := by
        obtain ⟨g1, o1, e1, _, hr⟩ := (own_sl (show St.Own 37 66 de _ (.slice (some ⟨g0, 0, none⟩) n rc) (d :: R) from HM.out.get 1 rfl)).2.lay.resolve_left (by omega)
        cases e1
        have := hr 0 d rfl
        show wr.rangeAt g0 0 (de d)
        simpa using this
      have HDl : Hid ((de d).length = 66) := de_len d
      have HDs : Hid ((de d).toArray.size = 66) := by show _ = _; rw [List.size_toArray]; exact de_len d
      have HD1 : Hid ((de d).toArray.all (·.oneCell') = true) := encD.all d
      have HU : Hid (d.u.length = 32) := d.hu
      have HBl : Hid ((behD X d.u).length ≤ N.length) := by show _ ≤ _; rw [← HA.out.len]; exact beh_len d.u _ _ rfl
      have hNN := HN.out
      have HM : Hid (M (fun _ => False) w _ [rD (.slice oa q oc) P, rD (.slice (some ⟨g0, 0, none⟩) n rc) (d :: R), blk wr.heap.size (.cells (de d).toArray 37)]) := HM.out.alloc (.cells (de d).toArray 37) rfl
      have HDr : Hid ((d :: R).drop 1 = R) := rfl
      have Hn1 : Hid (R.length + 1 = n) := hn
      clear hfm hn HPR
      have hkc : (1 : Int) ≤ (rc : Int) := by omega
      have hkn : (1 : Int) ≤ (n : Int) := by omega
      by_cases hrc : rc = 1
      · subst hrc
        have A2 : Hid (∀ w', St.Own 37 66 de w' (.slice (some ⟨g0, 0, none⟩) n 1) (d :: R) → St.At 66 de w' (some ⟨g0, 0, none⟩) 0 R) := fun w' h => by
          have e4 : R = [] := List.eq_nil_of_length_eq_zero (by have := Hn1.out; omega)
          rw [e4]
          exact (own_sl h).2.empty
        go_wp2_with (first | ((with_reducible refine at_load 37 ?_); first | (refine St.wl_load tyD rfl rfl rfl (HM.out.range 2 rfl) HDl.out ?_; simp only [Act.put, List.setIfInBounds_toArray, List.set_cons_zero, List.set_cons_succ]) | (refine St.wl_load tyD rfl rfl rfl Rd.out HDl.out ?_; simp only [Act.put, List.setIfInBounds_toArray, List.set_cons_zero, List.set_cons_succ])) | ((with_reducible refine at_alloc 37 ?_); refine St.wl_alloc tyD rfl rfl (by (try simp only [World.size_alloc]); rfl) ?_; simp only [Act.put, List.setIfInBounds_toArray, List.set_cons_zero, List.set_cons_succ]) | ((with_reducible refine at_store 37 ?_); refine St.wl_storeN (W := wr) tyD rfl rfl rfl rfl rfl (by (try simp only [World.size_alloc])) (show _ = Value.agg (de d).toArray from rfl) HDs.out rfl HD1.out ?_) | ((with_reducible refine at_load 35 ?_); refine Ids.wl_load rfl rfl rfl HU.out (rng_u (HM.out.range 2 rfl)) ?_; simp only [Act.put, List.setIfInBounds_toArray, List.set_cons_zero, List.set_cons_succ]) | (refine St.wl_build slD (by decide) rfl rfl HDl.out rfl ?_; have HM : Hid _ := HM.out.alloc (.cells (de d).toArray 37) rfl; simp only [Act.put, List.setIfInBounds_toArray, List.set_cons_zero, List.set_cons_succ]) | (refine St.wl_app1z encD slD (by decide) rfl rfl rfl (HM.out.get 0 rfl) rfl d rfl (HM.out.get 3 rfl) (by have := Hq.out; omega) ?_; intro v2 w4 h2 k2 g2; have HM : Hid _ := HM.out.appR 0 rfl h2 k2 g2; clear h2 k2 g2; simp only [Act.put, List.setIfInBounds_toArray, List.set_cons_zero, List.set_cons_succ]) | (refine St.wl_build0 encD slD rfl rfl ?_; intro o1; clear o1; have HM : Hid _ := row0 HM.out (T := 37) encD rfl; simp only [Act.put, List.setIfInBounds_toArray, List.set_cons_zero, List.set_cons_succ]) | (go_at_call 74; refine (HBe.out _ d.u d.hu HM.out.keep).mono ?_; rintro e w1 ⟨v5, rfl, m5⟩; obtain ⟨ba, bc, e5, _⟩ := m5.1.any; subst e5; have HM : Hid _ := M.newr HM.out m5; clear m5) | (refine St.wl_appR (els := ([] : List Dn)) encD slD (by decide) rfl rfl rfl (HM.out.get 4 rfl) rfl (own_sl (HM.out.get 5 rfl)).2 (by have := HBl.out; simp <;> omega) ?_; intro v6 w6 h6 k6 g6; have HM : Hid _ := HM.out.appR 4 rfl h6 k6 g6; clear h6 k6 g6; simp only [Act.put, List.setIfInBounds_toArray, List.set_cons_zero, List.set_cons_succ]) | (refine St.wl_appR encD slD (by decide) rfl rfl rfl (HM.out.get 4 rfl) rfl (A2.out _ (HM.out.get 1 rfl)) (by have := HBl.out; simp <;> omega) ?_; intro v7 w7 h7 k7 g7; have HM : Hid _ := HM.out.appR 4 rfl h7 k7 g7; clear h7 k7 g7; simp only [Act.put, List.setIfInBounds_toArray, List.set_cons_zero, List.set_cons_succ]))
        go_roundw
        case rel => exact ⟨P ++ [d], behD X d.u ++ R, v2, v7, rfl, rfl, HM.out.sub _ [0, 4] (by decide) rfl, HO.out.step HI.out HA.out⟩
        case measure =>
          obtain ⟨oa2, oc2, e1, _⟩ := (show St.Own 37 66 de _ v2 (P ++ [d]) from HM.out.get 0 rfl).any
          subst e1
          have := Hq.out
          simp [lnv]
          omega
      · have A2 : Hid (∀ w', St.Own 37 66 de w' (.slice (some ⟨g0, 0, none⟩) n rc) (d :: R) → St.At 66 de w' (some ⟨g0, 66, none⟩) (n - 1) R) := fun w' h => by
          have := (own_sl h).2.tail 1 (by omega)
          simpa using this
        go_wp2_with (first | ((with_reducible refine at_load 37 ?_); first | (refine St.wl_load tyD rfl rfl rfl (HM.out.range 2 rfl) HDl.out ?_; simp only [Act.put, List.setIfInBounds_toArray, List.set_cons_zero, List.set_cons_succ]) | (refine St.wl_load tyD rfl rfl rfl Rd.out HDl.out ?_; simp only [Act.put, List.setIfInBounds_toArray, List.set_cons_zero, List.set_cons_succ])) | ((with_reducible refine at_alloc 37 ?_); refine St.wl_alloc tyD rfl rfl (by (try simp only [World.size_alloc]); rfl) ?_; simp only [Act.put, List.setIfInBounds_toArray, List.set_cons_zero, List.set_cons_succ]) | ((with_reducible refine at_store 37 ?_); refine St.wl_storeN (W := wr) tyD rfl rfl rfl rfl rfl (by (try simp only [World.size_alloc])) (show _ = Value.agg (de d).toArray from rfl) HDs.out rfl HD1.out ?_) | ((with_reducible refine at_load 35 ?_); refine Ids.wl_load rfl rfl rfl HU.out (rng_u (HM.out.range 2 rfl)) ?_; simp only [Act.put, List.setIfInBounds_toArray, List.set_cons_zero, List.set_cons_succ]) | (refine St.wl_build slD (by decide) rfl rfl HDl.out rfl ?_; have HM : Hid _ := HM.out.alloc (.cells (de d).toArray 37) rfl; simp only [Act.put, List.setIfInBounds_toArray, List.set_cons_zero, List.set_cons_succ]) | (refine St.wl_app1z encD slD (by decide) rfl rfl rfl (HM.out.get 0 rfl) rfl d rfl (HM.out.get 3 rfl) (by have := Hq.out; omega) ?_; intro v2 w4 h2 k2 g2; have HM : Hid _ := HM.out.appR 0 rfl h2 k2 g2; clear h2 k2 g2; simp only [Act.put, List.setIfInBounds_toArray, List.set_cons_zero, List.set_cons_succ]) | (refine St.wl_build0 encD slD rfl rfl ?_; intro o1; clear o1; have HM : Hid _ := row0 HM.out (T := 37) encD rfl; simp only [Act.put, List.setIfInBounds_toArray, List.set_cons_zero, List.set_cons_succ]) | (go_at_call 74; refine (HBe.out _ d.u d.hu HM.out.keep).mono ?_; rintro e w1 ⟨v5, rfl, m5⟩; obtain ⟨ba, bc, e5, _⟩ := m5.1.any; subst e5; have HM : Hid _ := M.newr HM.out m5; clear m5) | (refine St.wl_appR (els := ([] : List Dn)) encD slD (by decide) rfl rfl rfl (HM.out.get 4 rfl) rfl (own_sl (HM.out.get 5 rfl)).2 (by have := HBl.out; simp <;> omega) ?_; intro v6 w6 h6 k6 g6; have HM : Hid _ := HM.out.appR 4 rfl h6 k6 g6; clear h6 k6 g6; simp only [Act.put, List.setIfInBounds_toArray, List.set_cons_zero, List.set_cons_succ]) | (refine St.wl_appR encD slD (by decide) rfl rfl rfl (HM.out.get 4 rfl) rfl (A2.out _ (HM.out.get 1 rfl)) (by have := HBl.out; simp <;> omega) ?_; intro v7 w7 h7 k7 g7; have HM : Hid _ := HM.out.appR 4 rfl h7 k7 g7; clear h7 k7 g7; simp only [Act.put, List.setIfInBounds_toArray, List.set_cons_zero, List.set_cons_succ]))
        go_roundw
        case rel => exact ⟨P ++ [d], behD X d.u ++ R, v2, v7, rfl, rfl, HM.out.sub _ [0, 4] (by decide) rfl, HO.out.step HI.out HA.out⟩
        case measure =>
          obtain ⟨oa2, oc2, e1, _⟩ := (show St.Own 37 66 de _ v2 (P ++ [d]) from HM.out.get 0 rfl).any
          subst e1
          have := Hq.out
          simp [lnv]
          omega
/-- What the document's Ids comes to. -/
structure XIdsPost (w : World) (l : List Wd) (e : Ending) (w' : World) : Prop where
  ex : ∃ a c, e = .returned (.slice a l.length c) ∧ At w' a l.length l ∧ Keep (fun _ => False) w w'
set_option maxRecDepth 100000 in
set_option maxHeartbeats 8000000 in
theorem xids_any (w : World) (a : Option Addr) (n c : Nat) (O : List Dn) (h : St.At 66 de w a n O) (hn : n ≤ 1000) :
    Calls Try.prog 38 #[.slice a n c] w (XIdsPost w (O.map (·.u))) := by
  have HAt : Hid (St.At 66 de w a n O) := h
  have HL : Hid (O.length = n) := h.len
  have HM : Hid (M (fun _ => False) w w [ids (.slice none 0 0) []]) := (M.start _ w).nilI
  clear h
  go_enter Try.func38, Try.ntmps38
  go_wp2
  go_loopw [3, 4] (fun s3 s4 wr => ∃ (k : Nat) (v : Value), k ≤ n ∧ s3 = v ∧ s4 = .int .i64 k ∧ M (fun _ => False) w wr [ids v ((O.take k).map (·.u))]) (fun _ s4 _ => n - (intOf s4).toNat)
  case atStart => exact ⟨0, _, Nat.zero_le _, rfl, by go_num, HM.out⟩
  case round =>
    clear HM
    obtain ⟨k, v, hk, e1, rfl, hM⟩ := hrel
    replace e1 := e1.symm
    subst e1
    have HM : Hid (M (fun _ => False) w wr [ids v ((O.take k).map (·.u))]) := hM
    clear hM
    by_cases hlt : k < n
    · obtain ⟨y, hy⟩ : ∃ y, O[k]? = some y := ⟨_, List.getElem?_eq_getElem (by rw [HL.out]; exact hlt)⟩
      obtain ⟨g0, o0, e0, hb0, hr0⟩ := HAt.out.lay.resolve_left (by omega)
      subst e0
      have RU : Hid (wr.rangeAt g0 (o0 + k * 66) (y.u.map bv)) := rng_u (HM.out.keep.range hb0 (fun h => h) (hr0 k y hy))
      have HU : Hid (y.u.length = 32) := y.hu
      have HE : Hid ((O.take (k + 1)).map (·.u) = (O.take k).map (·.u) ++ [y.u]) := by show _ = _; rw [List.take_add_one, hy, List.map_append]; rfl
      have HLk : Hid (((O.take k).map (·.u)).length ≤ k) := by show _ ≤ _; rw [List.length_map]; exact List.length_take_le _ _
      clear hr0 hy hb0
      generalize (O.take k).map (·.u) = l at HM HE HLk
      have hlk := HLk.out
      go_wp2_with (first | ((with_reducible refine at_load 35 ?_); refine Ids.wl_load rfl rfl rfl HU.out RU.out ?_; simp only [Act.put, List.setIfInBounds_toArray, List.set_cons_zero, List.set_cons_succ]) | (refine Ids.wl_build rfl rfl HU.out rfl ?_; have HM : Hid _ := HM.out.alloc (.cells (y.u.map bv).toArray 35) rfl; simp only [Act.put, List.setIfInBounds_toArray, List.set_cons_zero, List.set_cons_succ]) | (refine Ids.wl_app1 rfl rfl rfl (HM.out.get 0 rfl) rfl HU.out (HM.out.get 1 rfl) (by omega) ?_; intro v2 w2 h2 k2 g2; have HM : Hid _ := HM.out.appI 0 rfl h2 k2 g2; clear h2 k2 g2; simp only [Act.put, List.setIfInBounds_toArray, List.set_cons_zero, List.set_cons_succ]))
      go_roundw
      case rel => exact ⟨k + 1, _, by omega, rfl, by go_num, by rw [HE.out]; exact HM.out.take 1⟩
      case measure => simp [intOf]; omega
    · obtain rfl : n = k := by omega
      have HE : Hid (O.take n = O) := List.take_of_length_le (by rw [HL.out]; exact Nat.le_refl _)
      have HM := HM.out
      rw [HE.out] at HM
      obtain ⟨ia, ic, e1, hat, _⟩ := (show Ids.Own wr v _ from HM.get 0 rfl).at
      subst e1
      have HM : Hid _ := HM
      have HAi : Hid _ := hat
      clear hat
      go_wp2
      go_ret
      exact ⟨ia, ic, rfl, HAi.out, HM.out.keep⟩
end Sq
end Go.Proofs.Ytgpimeobkacniaa


namespace Go.Proofs.Ytgpimeobkacniaa
open Go.RowKit
namespace Sq
open Oct Ids Mp
open Mem (M It blk ids rows)
/-- What both come to. -/
structure KeyPost (w : World) (b bn bb bg : Nat) (N : Nds) (B : Bhs) (G l : List Wd) (e : Ending) (w' : World) : Prop where
  ex : ∃ v, e = .returned v ∧ M (foot b bn bb bg B) w w' [sqI b bn bb bg N B G, ids v l]
theorem own_idat {w : World} {a : Option Addr} {n c : Nat} {els : List Wd} (h : Ids.Own w (.slice a n c) els) : At w a n els := by
  obtain ⟨a', c', e, h1, _⟩ := h.at
  cases e
  exact h1
theorem it_key {w : World} {r b : Nat} {D todo : List (Wd × Value)} {cur : Option (Wd × Value)} (i : Iter okI idv w r b D todo cur) {dn : List Wd} {l1 l2 : List (Wd × Value)} {p : Wd × Value} (hP : (dn ++ (l1 ++ p :: l2).map (·.1)).Perm (D.map (·.1))) : p.1.length = 32 := by
  exact i.is.ok _ (hP.mem_iff.1 (by simp))
theorem footS {b bn bb bg : Nat} {N : Nds} {B : Bhs} {G : List Wd} {k : Nat} (hk : foot b bn bb bg B k) : ∃ (i : Nat) (y : It), (sqit b bn bb bg N B G)[i]? = some y ∧ y.foot k := by
  rcases hk with (hk | hk | hk | hk) | hk
  · exact ⟨0, _, rfl, hk⟩
  · exact ⟨1, _, rfl, hk⟩
  · exact ⟨2, _, rfl, hk⟩
  · exact ⟨3, _, rfl, hk⟩
  · exact ⟨4, _, rfl, hk⟩
theorem packS {F : Nat → Prop} {w0 w : World} {b bn bb bg : Nat} {N : Nds} {B : Bhs} {G : List Wd} {y : It} (h : M F w0 w ([y] ++ sqit b bn bb bg N B G)) : M F w0 w [sqI b bn bb bg N B G, y] :=
  (pack h (sqI b bn bb bg N B G) (mkS (h.sub (sqit b bn bb bg N B G) [1, 2, 3, 4, 5] (by decide) rfl)) (fun k hk => footS hk)).sub _ [1, 0] (by decide) rfl
set_option maxRecDepth 100000 in
set_option maxHeartbeats 8000000 in
theorem sids_any (w : World) (b bn bb bg : Nat) (N : Nds) (B : Bhs) (G : List Wd) (h : SqAt w b bn bb bg N B G) (hN : N.length ≤ 1000) (l : List Wd) (hl : ∀ K : List Wd, (∀ u, u ∈ K ↔ u ∈ N.map (·.1)) → IdL.setL K = l) :
    Calls Try.prog 75 #[.pointer (some ⟨b, 0, none⟩)] w (KeyPost w b bn bb bg N B G l) := by
  have HLs : Hid (∀ K : List Wd, (∀ u, u ∈ K ↔ u ∈ N.map (·.1)) → IdL.setL K = l) := hl
  have HNl : Hid ((dN N).length ≤ 1000) := by show _ ≤ _; unfold dN; rw [List.length_map]; exact hN
  have HKs : Hid ((dN N).map (·.1) = N.map (·.1)) := by show _ = _; unfold dN; rw [List.map_map]; rfl
  have HM : Hid (M (foot b bn bb bg B) w w [blk b (sc bn bb bg), mp okI idv bn (dN N), mp okI idv bb (dB B), mp okI idv bg (dG G), beh B, ids (.slice none 0 0) []]) := h.all.nilI
  have c0 := h.cells.1
  clear h hN hl
  go_enter Try.func75, Try.ntmps75
  go_wp2_with (first | (at_range; refine Mp.wl_range (ok := okI) (enc := idv) Try.underlying93 rfl rfl rfl (HM.out.get 1 rfl) ?_; intro w1 i1 k1 z1; have HM : Hid _ := M.toItr HM.out 1 rfl i1 k1 z1; clear i1 k1 z1; simp only [Act.put, List.setIfInBounds_toArray, List.set_cons_zero, List.set_cons_succ]))
  go_loopw [3] (fun s3 wr => ∃ (done : List Wd) (todo : List (Wd × Value)) (cur : Option (Wd × Value)) (v : Value), s3 = v ∧ M (foot b bn bb bg B) w wr ([blk b (sc bn bb bg), mp okI idv bn (dN N), mp okI idv bb (dB B), mp okI idv bg (dG G), beh B, ids v done].set 1 (itr okI idv w.heap.size bn (dN N) todo cur)) ∧ (done ++ todo.map (·.1)).Perm ((dN N).map (·.1))) (fun s3 _ => 1000 - lnv s3)
  case atStart => exact ⟨[], _, _, _, rfl, HM.out, List.Perm.refl _⟩
  case round =>
    clear HM c0
    obtain ⟨done, todo, cur, v, e1, hM, hP⟩ := hrel
    replace e1 := e1.symm
    subst e1
    have HM : Hid _ := hM
    have HP : Hid _ := hP
    obtain ⟨va, vc, e1, _⟩ := (show Ids.Own wr v done from HM.out.get 5 rfl).at
    subst e1
    have HLd : Hid (done.length + todo.length ≤ 1000) := by
      show _ ≤ _
      have := hP.length_eq
      rw [List.length_append, List.length_map, List.length_map] at this
      rw [this]
      exact HNl.out
    obtain ⟨q, hq⟩ : ∃ q, done.length = q := ⟨_, rfl⟩
    have Hq : Hid (done.length = q) := hq
    rw [hq] at HM ⊢
    clear hM hP
    have hq1 : q ≤ 1000 := by have := HLd.out; omega
    clear hq
    cases todo with
    | nil =>
      have HE : Hid (IdL.setL done = l) := HLs.out done (fun u => by
        have := HP.out.mem_iff (a := u)
        rw [List.map_nil, List.append_nil, HKs.out] at this
        exact this)
      go_wp2_with (first | (at_next; refine Mp.wl_next rfl rfl rfl (HM.out.get 1 rfl) (fun _ => ?_) (fun l1 p l2 w' e => by cases l1 <;> cases e); simp only [Act.put, List.setIfInBounds_toArray, List.set_cons_zero, List.set_cons_succ]) | (go_at_call 57; refine (set_any _ va q vc done (own_idat (HM.out.get 5 rfl)) (by omega)).mono ?_; rintro e w2 ⟨v2, rfl, o2, k2, f2⟩; rw [HE.out] at o2; have HM : Hid _ := HM.out.add (x := ids v2 l) k2 o2 (fun k hk => ⟨f2 k hk, o2.lt hk⟩); clear o2 k2 f2))
      go_ret
      have h9 := M.ofItr HM.out 1 rfl
      exact ⟨_, rfl, packS (h9.sub _ [6, 0, 1, 2, 3, 4] (by decide) rfl)⟩
    | cons p0 todo0 =>
      go_wp2_with (first | (at_next; refine Mp.wl_next rfl rfl rfl (HM.out.get 1 rfl) (fun e => by cases e) ?_; intro l1 p l2 w3 e3 i3 k3 z3; have HU : Hid (p.1.length = 32) := it_key i3 (by rw [← e3]; exact HP.out); have HUs : Hid ((p.1.map bv).toArray.size = 32) := (by show _ = _; rw [List.size_toArray, List.length_map]; exact HU.out); have HE3 : Hid _ := e3; have HM : Hid _ := M.stepItr HM.out 1 rfl i3 k3; clear e3 i3 k3 z3; simp only [Act.put, List.setIfInBounds_toArray, List.set_cons_zero, List.set_cons_succ]) | (refine Mp.wl_entry rfl rfl rfl (HM.out.get 1 rfl) ?_; simp only [Act.put, List.setIfInBounds_toArray, List.set_cons_zero, List.set_cons_succ]) | ((with_reducible refine at_alloc 35 ?_); refine St.wl_alloc tyI rfl rfl (by (try simp only [World.size_alloc]); rfl) ?_; simp only [Act.put, List.setIfInBounds_toArray, List.set_cons_zero, List.set_cons_succ]) | ((with_reducible refine at_store 35 ?_); refine St.wl_storeN (W := w3) tyI rfl rfl rfl rfl rfl (by (try simp only [World.size_alloc])) (show _ = Value.agg (p.1.map bv).toArray from rfl) HUs.out rfl (one_bv _) ?_; have HM : Hid _ := HM.out.alloc (.cells (p.1.map bv).toArray 35) rfl) | ((with_reducible refine at_load 35 ?_); refine Ids.wl_load rfl rfl rfl HU.out (HM.out.range 6 rfl) ?_; simp only [Act.put, List.setIfInBounds_toArray, List.set_cons_zero, List.set_cons_succ]) | (refine Ids.wl_build rfl rfl HU.out rfl ?_; have HM : Hid _ := HM.out.alloc (.cells (p.1.map bv).toArray 35) rfl; simp only [Act.put, List.setIfInBounds_toArray, List.set_cons_zero, List.set_cons_succ]) | (refine Ids.wl_app1 rfl rfl rfl (HM.out.get 5 rfl) rfl HU.out (HM.out.get 7 rfl) (by have := Hq.out; omega) ?_; intro v4 w4 h4 k4 g4; have HM : Hid _ := HM.out.appI 5 rfl h4 k4 g4; clear h4 k4 g4; simp only [Act.put, List.setIfInBounds_toArray, List.set_cons_zero, List.set_cons_succ]))
      go_roundw
      case rel =>
        refine ⟨done ++ [p.1], l1 ++ l2, some p, v4, rfl, HM.out.take 6, ?_⟩
        have h8 := HP.out
        rw [HE3.out] at h8
        refine List.Perm.trans ?_ h8
        simp only [List.map_append, List.map_cons, List.append_assoc, List.singleton_append]
        exact List.Perm.append_left _ List.perm_middle.symm
      case measure =>
        obtain ⟨a4, c4, e4, _⟩ := (show Ids.Own _ v4 (done ++ [p.1]) from HM.out.get 5 rfl).at
        subst e4
        have h1 := Hq.out
        have h2 := HLd.out
        rw [List.length_cons] at h2
        simp [lnv]
        omega
set_option maxRecDepth 100000 in
set_option maxHeartbeats 8000000 in
theorem sgone_any (w : World) (b bn bb bg : Nat) (N : Nds) (B : Bhs) (G : List Wd) (h : SqAt w b bn bb bg N B G) (hG : G.length ≤ 1000) (l : List Wd) (hl : ∀ K : List Wd, (∀ u, u ∈ K ↔ u ∈ G) → IdL.setL K = l) :
    Calls Try.prog 76 #[.pointer (some ⟨b, 0, none⟩)] w (KeyPost w b bn bb bg N B G l) := by
  have HLs : Hid (∀ K : List Wd, (∀ u, u ∈ K ↔ u ∈ G) → IdL.setL K = l) := hl
  have HNl : Hid ((dG G).length ≤ 1000) := by show _ ≤ _; unfold dG; rw [List.length_map]; exact hG
  have HKs : Hid ((dG G).map (·.1) = G) := by show _ = _; unfold dG; rw [List.map_map]; exact List.map_id G
  have HM : Hid (M (foot b bn bb bg B) w w [blk b (sc bn bb bg), mp okI idv bn (dN N), mp okI idv bb (dB B), mp okI idv bg (dG G), beh B, ids (.slice none 0 0) []]) := h.all.nilI
  have c0 := h.cells.2.2
  clear h hG hl
  go_enter Try.func76, Try.ntmps76
  go_wp2_with (first | (at_range; refine Mp.wl_range (ok := okI) (enc := idv) Try.underlying73 rfl rfl rfl (HM.out.get 3 rfl) ?_; intro w1 i1 k1 z1; have HM : Hid _ := M.toItr HM.out 3 rfl i1 k1 z1; clear i1 k1 z1; simp only [Act.put, List.setIfInBounds_toArray, List.set_cons_zero, List.set_cons_succ]))
  go_loopw [3] (fun s3 wr => ∃ (done : List Wd) (todo : List (Wd × Value)) (cur : Option (Wd × Value)) (v : Value), s3 = v ∧ M (foot b bn bb bg B) w wr ([blk b (sc bn bb bg), mp okI idv bn (dN N), mp okI idv bb (dB B), mp okI idv bg (dG G), beh B, ids v done].set 3 (itr okI idv w.heap.size bg (dG G) todo cur)) ∧ (done ++ todo.map (·.1)).Perm ((dG G).map (·.1))) (fun s3 _ => 1000 - lnv s3)
  case atStart => exact ⟨[], _, _, _, rfl, HM.out, List.Perm.refl _⟩
  case round =>
    clear HM c0
    obtain ⟨done, todo, cur, v, e1, hM, hP⟩ := hrel
    replace e1 := e1.symm
    subst e1
    have HM : Hid _ := hM
    have HP : Hid _ := hP
    obtain ⟨va, vc, e1, _⟩ := (show Ids.Own wr v done from HM.out.get 5 rfl).at
    subst e1
    have HLd : Hid (done.length + todo.length ≤ 1000) := by
      show _ ≤ _
      have := hP.length_eq
      rw [List.length_append, List.length_map, List.length_map] at this
      rw [this]
      exact HNl.out
    obtain ⟨q, hq⟩ : ∃ q, done.length = q := ⟨_, rfl⟩
    have Hq : Hid (done.length = q) := hq
    rw [hq] at HM ⊢
    clear hM hP
    have hq1 : q ≤ 1000 := by have := HLd.out; omega
    clear hq
    cases todo with
    | nil =>
      have HE : Hid (IdL.setL done = l) := HLs.out done (fun u => by
        have := HP.out.mem_iff (a := u)
        rw [List.map_nil, List.append_nil, HKs.out] at this
        exact this)
      go_wp2_with (first | (at_next; refine Mp.wl_next rfl rfl rfl (HM.out.get 3 rfl) (fun _ => ?_) (fun l1 p l2 w' e => by cases l1 <;> cases e); simp only [Act.put, List.setIfInBounds_toArray, List.set_cons_zero, List.set_cons_succ]) | (go_at_call 57; refine (set_any _ va q vc done (own_idat (HM.out.get 5 rfl)) (by omega)).mono ?_; rintro e w2 ⟨v2, rfl, o2, k2, f2⟩; rw [HE.out] at o2; have HM : Hid _ := HM.out.add (x := ids v2 l) k2 o2 (fun k hk => ⟨f2 k hk, o2.lt hk⟩); clear o2 k2 f2))
      go_ret
      have h9 := M.ofItr HM.out 3 rfl
      exact ⟨_, rfl, packS (h9.sub _ [6, 0, 1, 2, 3, 4] (by decide) rfl)⟩
    | cons p0 todo0 =>
      go_wp2_with (first | (at_next; refine Mp.wl_next rfl rfl rfl (HM.out.get 3 rfl) (fun e => by cases e) ?_; intro l1 p l2 w3 e3 i3 k3 z3; have HU : Hid (p.1.length = 32) := it_key i3 (by rw [← e3]; exact HP.out); have HUs : Hid ((p.1.map bv).toArray.size = 32) := (by show _ = _; rw [List.size_toArray, List.length_map]; exact HU.out); have HE3 : Hid _ := e3; have HM : Hid _ := M.stepItr HM.out 3 rfl i3 k3; clear e3 i3 k3 z3; simp only [Act.put, List.setIfInBounds_toArray, List.set_cons_zero, List.set_cons_succ]) | (refine Mp.wl_entry rfl rfl rfl (HM.out.get 3 rfl) ?_; simp only [Act.put, List.setIfInBounds_toArray, List.set_cons_zero, List.set_cons_succ]) | ((with_reducible refine at_alloc 35 ?_); refine St.wl_alloc tyI rfl rfl (by (try simp only [World.size_alloc]); rfl) ?_; simp only [Act.put, List.setIfInBounds_toArray, List.set_cons_zero, List.set_cons_succ]) | ((with_reducible refine at_store 35 ?_); refine St.wl_storeN (W := w3) tyI rfl rfl rfl rfl rfl (by (try simp only [World.size_alloc])) (show _ = Value.agg (p.1.map bv).toArray from rfl) HUs.out rfl (one_bv _) ?_; have HM : Hid _ := HM.out.alloc (.cells (p.1.map bv).toArray 35) rfl) | ((with_reducible refine at_load 35 ?_); refine Ids.wl_load rfl rfl rfl HU.out (HM.out.range 6 rfl) ?_; simp only [Act.put, List.setIfInBounds_toArray, List.set_cons_zero, List.set_cons_succ]) | (refine Ids.wl_build rfl rfl HU.out rfl ?_; have HM : Hid _ := HM.out.alloc (.cells (p.1.map bv).toArray 35) rfl; simp only [Act.put, List.setIfInBounds_toArray, List.set_cons_zero, List.set_cons_succ]) | (refine Ids.wl_app1 rfl rfl rfl (HM.out.get 5 rfl) rfl HU.out (HM.out.get 7 rfl) (by have := Hq.out; omega) ?_; intro v4 w4 h4 k4 g4; have HM : Hid _ := HM.out.appI 5 rfl h4 k4 g4; clear h4 k4 g4; simp only [Act.put, List.setIfInBounds_toArray, List.set_cons_zero, List.set_cons_succ]))
      go_roundw
      case rel =>
        refine ⟨done ++ [p.1], l1 ++ l2, some p, v4, rfl, HM.out.take 6, ?_⟩
        have h8 := HP.out
        rw [HE3.out] at h8
        refine List.Perm.trans ?_ h8
        simp only [List.map_append, List.map_cons, List.append_assoc, List.singleton_append]
        exact List.Perm.append_left _ List.perm_middle.symm
      case measure =>
        obtain ⟨a4, c4, e4, _⟩ := (show Ids.Own _ v4 (done ++ [p.1]) from HM.out.get 5 rfl).at
        subst e4
        have h1 := Hq.out
        have h2 := HLd.out
        rw [List.length_cons] at h2
        simp [lnv]
        omega
end Sq
end Go.Proofs.Ytgpimeobkacniaa
