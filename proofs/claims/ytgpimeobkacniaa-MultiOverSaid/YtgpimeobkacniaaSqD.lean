/-
  The document's Order, Ids, List.
-/
import Derived.Test.YtgpimeobkacniaaSqC
set_option linter.unusedVariables false
set_option linter.unusedSimpArgs false
namespace Go.Proofs.Ytgpimeobkacniaa
open Go.RowKit
namespace Sq
open Oct Ids Mp
open Mem (M It blk ids rows)
def lnv : Value → Nat
  | .slice _ n _ => n
  | _ => 0
theorem M.newr {F : Nat → Prop} {w0 w w' : World} {it : List It} (h : M F w0 w it) {α : Type} {T : TypeId} {n : Nat} {enc : α → List Value} {v : Value} {L : List α} (m : St.New T n enc w w' v L) : M F w0 w' (it ++ [rows T n enc v L]) :=
  h.add (x := rows T n enc v L) m.2.1 m.1 (fun k hk => ⟨m.2.2 k hk, m.1.lt hk⟩)
/-- What the document's Order comes to. -/
structure XOrdPost (w : World) (X : List Dn) (N : Nds) (B : Bhs) (e : Ending) (w' : World) : Prop where
  ex : ∃ (O : List Dn) (v : Value), e = .returned v ∧ St.New 37 66 de w w' v O ∧ OrdD X N B O
set_option maxRecDepth 100000 in
set_option maxHeartbeats 16000000 in
theorem xord_any (w : World) (b : Nat) (lv gv : Value) (X : List Dn) (G : List Wd) (h : XsAt w b lv gv X G) (hX : X.length ≤ 1000) (N : Nds) (B : Bhs) (hi : Inv N B) (ha : Alk X N) :
    Calls Try.prog 39 #[.pointer (some ⟨b, 0, none⟩)] w (XOrdPost w X N B) := by
  have HBe : Hid (∀ (w1 : World) (r : Wd), r.length = 32 → Keep (fun _ => False) w w1 → Calls Try.prog 74 #[.pointer (some ⟨b, 0, none⟩), idv r] w1 (BehPost w1 (behD X r))) := fun w1 r hr k => xbeh_any w1 b lv gv X G (h.calm k) hX r hr
  have HI : Hid (Inv N B) := hi
  have HA : Hid (Alk X N) := ha
  have HN : Hid (N.length ≤ 1000) := by show _ ≤ _; rw [← ha.len]; exact hX
  have HM : Hid (M (fun _ => False) w w [rD (.slice none 0 0) []]) := (M.start _ w).nilR 37 66 de
  clear h hi ha hX
  go_enter Try.func39, Try.ntmps39
  go_wp2_with (first | (refine wl_buildZ (by rfl) rfl ?_; simp only [Act.put, List.setIfInBounds_toArray, List.set_cons_zero, List.set_cons_succ]) | (go_at_call 74; refine (show Calls Try.prog 74 #[.pointer (some ⟨b, 0, none⟩), .agg z32] w (BehPost w (behD X Zi)) from HBe.out w Zi rfl (Keep.refl _ _)).mono ?_; rintro e w1 ⟨v1, rfl, m1⟩; have HM : Hid (M (fun _ => False) w w1 [rD (.slice none 0 0) [], rD v1 (behD X Zi)]) := M.newr HM.out m1; clear m1))
  go_loopw [3, 4] (fun s3 s4 wr => ∃ (P R : List Dn) (vo vr : Value), s3 = vo ∧ s4 = vr ∧ M (fun _ => False) w wr [rD vo P, rD vr R] ∧ OrdI X N B P R) (fun s3 _ _ => N.length - lnv s3)
  case atStart => exact ⟨[], behD X Zi, _, _, rfl, rfl, HM.out, OrdI.start HI.out HA.out⟩
  case round =>
    clear HM
    obtain ⟨P, R, vo, vr, e1, e2, hM, hO⟩ := hrel
    replace e1 := e1.symm
    replace e2 := e2.symm
    subst e1
    subst e2
    have HM : Hid (M (fun _ => False) w wr [rD vo P, rD vr R]) := hM
    have HO : Hid (OrdI X N B P R) := hO
    have HPR : Hid (P.length + R.length ≤ N.length) := hO.len HI.out
    clear hM hO
    obtain ⟨ra, rc, e2, _⟩ := (show St.Own 37 66 de wr vr R from HM.out.get 1 rfl).any
    subst e2
    obtain ⟨oa, oc, e1, _⟩ := (show St.Own 37 66 de wr vo P from HM.out.get 0 rfl).any
    subst e1
    obtain ⟨q, hq⟩ : ∃ q, P.length = q := ⟨_, rfl⟩
    have Hq : Hid (P.length = q) := hq
    rw [hq] at HM HPR ⊢
    clear hq
    cases R with
    | nil =>
      go_wp2
      go_ret
      exact ⟨P, _, rfl, ⟨HM.out.get 0 rfl, HM.out.keep, fun k hk => (HM.out.rng 0 _ rfl k hk).1.resolve_right (fun h => h)⟩, HO.out.stop⟩
    | cons d R =>
      obtain ⟨n, hn⟩ : ∃ n, (d :: R).length = n := ⟨_, rfl⟩
      have Hn : Hid ((d :: R).length = n) := hn
      have hn1 : 0 < n := by rw [← hn]; exact Nat.succ_pos _
      rw [hn] at HM HPR ⊢
      have hqN : q + n ≤ N.length := HPR.out
      obtain ⟨hqc, hvm, hfm⟩ := own_fm (show St.Own 37 66 de _ (.slice ra n rc) (d :: R) from HM.out.get 1 rfl)
      obtain ⟨g0, e0⟩ := hfm.resolve_left (fun h => by omega)
      subst e0
      unfold maxLen at hvm
      have Rd : Hid (wr.rangeAt g0 0 (de d)) := by
        obtain ⟨g1, o1, e1, _, hr⟩ := (own_sl (show St.Own 37 66 de _ (.slice (some ⟨g0, 0, none⟩) n rc) (d :: R) from HM.out.get 1 rfl)).2.lay.resolve_left (by omega)
        cases e1
        have := hr 0 d rfl
        show wr.rangeAt g0 0 (de d)
        simpa using this
      have HDl : Hid ((de d).length = 66) := de_len d
      have HDs : Hid ((de d).toArray.size = 66) := by show _ = _; rw [List.size_toArray]; exact de_len d
      have HD1 : Hid ((de d).toArray.all (·.oneCell') = true) := encD.all d
      have HU : Hid (d.u.length = 32) := d.hu
      have HBl : Hid ((behD X d.u).length ≤ N.length) := by show _ ≤ _; rw [← HA.out.len]; exact beh_len d.u _ _ rfl
      have hNN := HN.out
      have HM : Hid (M (fun _ => False) w _ [rD (.slice oa q oc) P, rD (.slice (some ⟨g0, 0, none⟩) n rc) (d :: R), blk wr.heap.size (.cells (de d).toArray 37)]) := HM.out.alloc (.cells (de d).toArray 37) rfl
      have HDr : Hid ((d :: R).drop 1 = R) := rfl
      have Hn1 : Hid (R.length + 1 = n) := hn
      clear hfm hn HPR
      have hkc : (1 : Int) ≤ (rc : Int) := by omega
      have hkn : (1 : Int) ≤ (n : Int) := by omega
      by_cases hrc : rc = 1
      · subst hrc
        have A2 : Hid (∀ w', St.Own 37 66 de w' (.slice (some ⟨g0, 0, none⟩) n 1) (d :: R) → St.At 66 de w' (some ⟨g0, 0, none⟩) 0 R) := fun w' h => by
          have e4 : R = [] := List.eq_nil_of_length_eq_zero (by have := Hn1.out; omega)
          rw [e4]
          exact (own_sl h).2.empty
        go_wp2_with (first | ((with_reducible refine at_load 37 ?_); first | (refine St.wl_load tyD rfl rfl rfl (HM.out.range 2 rfl) HDl.out ?_; simp only [Act.put, List.setIfInBounds_toArray, List.set_cons_zero, List.set_cons_succ]) | (refine St.wl_load tyD rfl rfl rfl Rd.out HDl.out ?_; simp only [Act.put, List.setIfInBounds_toArray, List.set_cons_zero, List.set_cons_succ])) | ((with_reducible refine at_alloc 37 ?_); refine St.wl_alloc tyD rfl rfl (by (try simp only [World.size_alloc]); rfl) ?_; simp only [Act.put, List.setIfInBounds_toArray, List.set_cons_zero, List.set_cons_succ]) | ((with_reducible refine at_store 37 ?_); refine St.wl_storeN (W := wr) tyD rfl rfl rfl rfl rfl (by (try simp only [World.size_alloc])) (show _ = Value.agg (de d).toArray from rfl) HDs.out rfl HD1.out ?_) | ((with_reducible refine at_load 35 ?_); refine Ids.wl_load rfl rfl rfl HU.out (rng_u (HM.out.range 2 rfl)) ?_; simp only [Act.put, List.setIfInBounds_toArray, List.set_cons_zero, List.set_cons_succ]) | (refine St.wl_build slD (by decide) rfl rfl HDl.out rfl ?_; have HM : Hid _ := HM.out.alloc (.cells (de d).toArray 37) rfl; simp only [Act.put, List.setIfInBounds_toArray, List.set_cons_zero, List.set_cons_succ]) | (refine St.wl_app1z encD slD (by decide) rfl rfl rfl (HM.out.get 0 rfl) rfl d rfl (HM.out.get 3 rfl) (by have := Hq.out; omega) ?_; intro v2 w4 h2 k2 g2; have HM : Hid _ := HM.out.appR 0 rfl h2 k2 g2; clear h2 k2 g2; simp only [Act.put, List.setIfInBounds_toArray, List.set_cons_zero, List.set_cons_succ]) | (refine St.wl_build0 encD slD rfl rfl ?_; intro o1; clear o1; have HM : Hid _ := row0 HM.out (T := 37) encD rfl; simp only [Act.put, List.setIfInBounds_toArray, List.set_cons_zero, List.set_cons_succ]) | (go_at_call 74; refine (HBe.out _ d.u d.hu HM.out.keep).mono ?_; rintro e w1 ⟨v5, rfl, m5⟩; obtain ⟨ba, bc, e5, _⟩ := m5.1.any; subst e5; have HM : Hid _ := M.newr HM.out m5; clear m5) | (refine St.wl_appR (els := ([] : List Dn)) encD slD (by decide) rfl rfl rfl (HM.out.get 4 rfl) rfl (own_sl (HM.out.get 5 rfl)).2 (by have := HBl.out; simp <;> omega) ?_; intro v6 w6 h6 k6 g6; have HM : Hid _ := HM.out.appR 4 rfl h6 k6 g6; clear h6 k6 g6; simp only [Act.put, List.setIfInBounds_toArray, List.set_cons_zero, List.set_cons_succ]) | (refine St.wl_appR encD slD (by decide) rfl rfl rfl (HM.out.get 4 rfl) rfl (A2.out _ (HM.out.get 1 rfl)) (by have := HBl.out; simp <;> omega) ?_; intro v7 w7 h7 k7 g7; have HM : Hid _ := HM.out.appR 4 rfl h7 k7 g7; clear h7 k7 g7; simp only [Act.put, List.setIfInBounds_toArray, List.set_cons_zero, List.set_cons_succ]))
        go_roundw
        case rel => exact ⟨P ++ [d], behD X d.u ++ R, v2, v7, rfl, rfl, HM.out.sub _ [0, 4] (by decide) rfl, HO.out.step HI.out HA.out⟩
        case measure =>
          obtain ⟨oa2, oc2, e1, _⟩ := (show St.Own 37 66 de _ v2 (P ++ [d]) from HM.out.get 0 rfl).any
          subst e1
          have := Hq.out
          simp [lnv]
          omega
      · have A2 : Hid (∀ w', St.Own 37 66 de w' (.slice (some ⟨g0, 0, none⟩) n rc) (d :: R) → St.At 66 de w' (some ⟨g0, 66, none⟩) (n - 1) R) := fun w' h => by
          have := (own_sl h).2.tail 1 (by omega)
          simpa using this
        go_wp2_with (first | ((with_reducible refine at_load 37 ?_); first | (refine St.wl_load tyD rfl rfl rfl (HM.out.range 2 rfl) HDl.out ?_; simp only [Act.put, List.setIfInBounds_toArray, List.set_cons_zero, List.set_cons_succ]) | (refine St.wl_load tyD rfl rfl rfl Rd.out HDl.out ?_; simp only [Act.put, List.setIfInBounds_toArray, List.set_cons_zero, List.set_cons_succ])) | ((with_reducible refine at_alloc 37 ?_); refine St.wl_alloc tyD rfl rfl (by (try simp only [World.size_alloc]); rfl) ?_; simp only [Act.put, List.setIfInBounds_toArray, List.set_cons_zero, List.set_cons_succ]) | ((with_reducible refine at_store 37 ?_); refine St.wl_storeN (W := wr) tyD rfl rfl rfl rfl rfl (by (try simp only [World.size_alloc])) (show _ = Value.agg (de d).toArray from rfl) HDs.out rfl HD1.out ?_) | ((with_reducible refine at_load 35 ?_); refine Ids.wl_load rfl rfl rfl HU.out (rng_u (HM.out.range 2 rfl)) ?_; simp only [Act.put, List.setIfInBounds_toArray, List.set_cons_zero, List.set_cons_succ]) | (refine St.wl_build slD (by decide) rfl rfl HDl.out rfl ?_; have HM : Hid _ := HM.out.alloc (.cells (de d).toArray 37) rfl; simp only [Act.put, List.setIfInBounds_toArray, List.set_cons_zero, List.set_cons_succ]) | (refine St.wl_app1z encD slD (by decide) rfl rfl rfl (HM.out.get 0 rfl) rfl d rfl (HM.out.get 3 rfl) (by have := Hq.out; omega) ?_; intro v2 w4 h2 k2 g2; have HM : Hid _ := HM.out.appR 0 rfl h2 k2 g2; clear h2 k2 g2; simp only [Act.put, List.setIfInBounds_toArray, List.set_cons_zero, List.set_cons_succ]) | (refine St.wl_build0 encD slD rfl rfl ?_; intro o1; clear o1; have HM : Hid _ := row0 HM.out (T := 37) encD rfl; simp only [Act.put, List.setIfInBounds_toArray, List.set_cons_zero, List.set_cons_succ]) | (go_at_call 74; refine (HBe.out _ d.u d.hu HM.out.keep).mono ?_; rintro e w1 ⟨v5, rfl, m5⟩; obtain ⟨ba, bc, e5, _⟩ := m5.1.any; subst e5; have HM : Hid _ := M.newr HM.out m5; clear m5) | (refine St.wl_appR (els := ([] : List Dn)) encD slD (by decide) rfl rfl rfl (HM.out.get 4 rfl) rfl (own_sl (HM.out.get 5 rfl)).2 (by have := HBl.out; simp <;> omega) ?_; intro v6 w6 h6 k6 g6; have HM : Hid _ := HM.out.appR 4 rfl h6 k6 g6; clear h6 k6 g6; simp only [Act.put, List.setIfInBounds_toArray, List.set_cons_zero, List.set_cons_succ]) | (refine St.wl_appR encD slD (by decide) rfl rfl rfl (HM.out.get 4 rfl) rfl (A2.out _ (HM.out.get 1 rfl)) (by have := HBl.out; simp <;> omega) ?_; intro v7 w7 h7 k7 g7; have HM : Hid _ := HM.out.appR 4 rfl h7 k7 g7; clear h7 k7 g7; simp only [Act.put, List.setIfInBounds_toArray, List.set_cons_zero, List.set_cons_succ]))
        go_roundw
        case rel => exact ⟨P ++ [d], behD X d.u ++ R, v2, v7, rfl, rfl, HM.out.sub _ [0, 4] (by decide) rfl, HO.out.step HI.out HA.out⟩
        case measure =>
          obtain ⟨oa2, oc2, e1, _⟩ := (show St.Own 37 66 de _ v2 (P ++ [d]) from HM.out.get 0 rfl).any
          subst e1
          have := Hq.out
          simp [lnv]
          omega
/-- What the document's Ids comes to. -/
structure XIdsPost (w : World) (l : List Wd) (e : Ending) (w' : World) : Prop where
  ex : ∃ a c, e = .returned (.slice a l.length c) ∧ At w' a l.length l ∧ Keep (fun _ => False) w w'
set_option maxRecDepth 100000 in
set_option maxHeartbeats 8000000 in
theorem xids_any (w : World) (a : Option Addr) (n c : Nat) (O : List Dn) (h : St.At 66 de w a n O) (hn : n ≤ 1000) :
    Calls Try.prog 38 #[.slice a n c] w (XIdsPost w (O.map (·.u))) := by
  have HAt : Hid (St.At 66 de w a n O) := h
  have HL : Hid (O.length = n) := h.len
  have HM : Hid (M (fun _ => False) w w [ids (.slice none 0 0) []]) := (M.start _ w).nilI
  clear h
  go_enter Try.func38, Try.ntmps38
  go_wp2
  go_loopw [3, 4] (fun s3 s4 wr => ∃ (k : Nat) (v : Value), k ≤ n ∧ s3 = v ∧ s4 = .int .i64 k ∧ M (fun _ => False) w wr [ids v ((O.take k).map (·.u))]) (fun _ s4 _ => n - (intOf s4).toNat)
  case atStart => exact ⟨0, _, Nat.zero_le _, rfl, by go_num, HM.out⟩
  case round =>
    clear HM
    obtain ⟨k, v, hk, e1, rfl, hM⟩ := hrel
    replace e1 := e1.symm
    subst e1
    have HM : Hid (M (fun _ => False) w wr [ids v ((O.take k).map (·.u))]) := hM
    clear hM
    by_cases hlt : k < n
    · obtain ⟨y, hy⟩ : ∃ y, O[k]? = some y := ⟨_, List.getElem?_eq_getElem (by rw [HL.out]; exact hlt)⟩
      obtain ⟨g0, o0, e0, hb0, hr0⟩ := HAt.out.lay.resolve_left (by omega)
      subst e0
      have RU : Hid (wr.rangeAt g0 (o0 + k * 66) (y.u.map bv)) := rng_u (HM.out.keep.range hb0 (fun h => h) (hr0 k y hy))
      have HU : Hid (y.u.length = 32) := y.hu
      have HE : Hid ((O.take (k + 1)).map (·.u) = (O.take k).map (·.u) ++ [y.u]) := by show _ = _; rw [List.take_add_one, hy, List.map_append]; rfl
      have HLk : Hid (((O.take k).map (·.u)).length ≤ k) := by show _ ≤ _; rw [List.length_map]; exact List.length_take_le _ _
      clear hr0 hy hb0
      generalize (O.take k).map (·.u) = l at HM HE HLk
      have hlk := HLk.out
      go_wp2_with (first | ((with_reducible refine at_load 35 ?_); refine Ids.wl_load rfl rfl rfl HU.out RU.out ?_; simp only [Act.put, List.setIfInBounds_toArray, List.set_cons_zero, List.set_cons_succ]) | (refine Ids.wl_build rfl rfl HU.out rfl ?_; have HM : Hid _ := HM.out.alloc (.cells (y.u.map bv).toArray 35) rfl; simp only [Act.put, List.setIfInBounds_toArray, List.set_cons_zero, List.set_cons_succ]) | (refine Ids.wl_app1 rfl rfl rfl (HM.out.get 0 rfl) rfl HU.out (HM.out.get 1 rfl) (by omega) ?_; intro v2 w2 h2 k2 g2; have HM : Hid _ := HM.out.appI 0 rfl h2 k2 g2; clear h2 k2 g2; simp only [Act.put, List.setIfInBounds_toArray, List.set_cons_zero, List.set_cons_succ]))
      go_roundw
      case rel => exact ⟨k + 1, _, by omega, rfl, by go_num, by rw [HE.out]; exact HM.out.take 1⟩
      case measure => simp [intOf]; omega
    · obtain rfl : n = k := by omega
      have HE : Hid (O.take n = O) := List.take_of_length_le (by rw [HL.out]; exact Nat.le_refl _)
      have HM := HM.out
      rw [HE.out] at HM
      obtain ⟨ia, ic, e1, hat, _⟩ := (show Ids.Own wr v _ from HM.get 0 rfl).at
      subst e1
      have HM : Hid _ := HM
      have HAi : Hid _ := hat
      clear hat
      go_wp2
      go_ret
      exact ⟨ia, ic, rfl, HAi.out, HM.out.keep⟩
end Sq
end Go.Proofs.Ytgpimeobkacniaa
