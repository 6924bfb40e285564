/-
  'petrellaw15.RuleVerdicts': any header by any known ones: whether it may be accepted, or why not; which parents are unknown; the height behind these. For every input.
-/
import Derived.Test.YtdpkklinpbmkfaaGreatDoorGLn
import Derived.Test.YtdpkklinpbmkfaaGreatDoorOpnU
import Derived.Test.YtdpkklinpbmkfaaGreatDoorTie
import Derived.Test.YtdpkklinpbmkfaaGreatDoorCards
import Derived.SevenTiedAt
import Derived.Stop.Joined
set_option linter.unusedVariables false
set_option linter.unusedSimpArgs false
namespace Go.Proofs.YtdpkklinpbmkfaaGreatDoor
open Go.RowKit
namespace RuleVerdicts
open Oct Ids Gn Hd Ru Nx Go.ChangeShapes Go.WideShapes Go.ChangeAt
open Mem (M It blk ids rows)
set_option maxRecDepth 100000 in
set_option maxHeartbeats 4000000 in
theorem walk (x : HH) (s : Opn.Sl HH) (w : World) (hT : Sha.TabF w ∧ Sha.TabK w) (hx : factH w x) (hs : Opn.SlAt 38 layH factH w s) :
    Calls Tryz.prog 6 #[.agg (layH x).toArray, .slice s.a s.len s.cap] w fun e w' => e = .returned (.bool true) ∧ Below w.heap.size w w' := by
  obtain ⟨hA, hin⟩ := in_row hs
  have hh := in_toH hx
  rw [← he_toH x hx.1]
  generalize toH x = h at hh
  obtain ⟨a, n, c, els⟩ := s
  simp only at hA hin ⊢
  generalize els.map toH = K at hA hin
  clear hs els hx
  have HF : Hid (Sha.TabF w) := hT.1
  have HK : Hid (Sha.TabK w) := hT.2
  have HMu : Hid (∀ w', Keep (fun _ => False) w w' → Calls Tryz.prog 29 #[.agg (he h).toArray, .slice a n c] w' (MuchPost w' h n K)) := fun w' k => much_any w' h ⟨hh.1.calm k, hh.2⟩ a n c K (hA.calm k) (fun x hx => ⟨(hin x hx).1.calm k, (hin x hx).2⟩)
  have HM : Hid (M (fun _ => False) w _ [blk w.heap.size (.cells (he h).toArray 30)]) := (M.start _ w).alloc (.cells (he h).toArray 30) rfl
  have HA : Hid (St.At 38 he w a n K) := hA
  have HIn : Hid (∀ x ∈ K, Hin w x) := hin
  have HHi : Hid (Hin w h) := hh
  clear hT hA hin hh
  go_enter Tryz.func6, Tryz.ntmps6
  go_wp2_with (first | ((with_reducible refine at_load 30 ?_); refine St.wl_load tyH (by rfl) rfl rfl (HM.out.range 0 rfl) (he_len h) ?_; simp only [Act.put, List.setIfInBounds_toArray, List.set_cons_zero, List.set_cons_succ]) | (go_at_call 29; refine (HMu.out _ HM.out.keep).mono ?_; rintro e w1 ⟨p, rfl, k1, hp⟩; have HM : Hid _ := HM.out.calm k1; have HP : Hid (p = false → n ≤ 20 ∧ h.n ≤ 20 ∧ h.T.size ≤ 100 ∧ ∀ x ∈ K, x.n ≤ 20 ∧ x.T.size ≤ 100) := hp; clear k1 hp))
  · go_wp2_with (first | (go_at_call 30; refine (awake15 _ (HF.out.keep HM.out.keep (fun h => h)) (HK.out.keep HM.out.keep (fun h => h))).mono ?_; rintro e w9 ⟨rfl, k9⟩; have HM : Hid _ := HM.out.calm k9; clear k9))
    go_ret
    exact ⟨rfl, Keep.below HM.out.keep (Nat.le_refl _) (fun _ h => h.elim)⟩
  · obtain ⟨hn, hhn, hT1, hx⟩ := HP.out (by assumption)
    have Hn : Hid (n ≤ 20) := hn
    have HKo : Hid (∀ x ∈ K, Hok w x) := fun x hx' => ok_of (HIn.out x hx') (by have := (hx x hx').1; omega)
    have HHo : Hid (Hok w h) := ok_of HHi.out (by omega)
    clear hx HP HMu hn hT1 hhn
    have HSof : Hid (∀ w', M (fun _ => False) w w' [blk w.heap.size (.cells (he h).toArray 30)] → w'.rangeAt w.heap.size 0 (he h)) := fun w' h => h.range 0 rfl
    have HM : Hid _ := HM.out.drew
    refine Txt.wp_region_text (fun w' => w'.rangeAt w.heap.size 0 (he h)) [1, 0, 4, 2, 0, 4, 0, 0, 1, 0, 4, 2, 0, 4, 4, 0, 0, 0, 4, 0, 4, 0, 0, 0, 4, 0, 0] (by kernel_rfl) (by kernel_rfl) (HSof.out _ HM.out) ?_
    (repeat (first | (refine Txt.tl_pure (v := ?_) (by rfl) ?_ ?_; rotate_left; (focus (intro _; go_simp; try with_reducible rfl)); simp only [Act.put, List.setIfInBounds_toArray, List.set_cons_zero, List.set_cons_succ]) | (refine Txt.tl_rowN (n := 38) (ty := 30) (by rfl) (by rfl) (by rfl) (HM.out.range 0 rfl) (by kernel_rfl) (he_len h) ?_; simp only [Act.put, List.setIfInBounds_toArray, List.set_cons_zero, List.set_cons_succ]) | (refine Txt.tl_rowSN (n := 38) (ty := 30) (by rfl) (by rfl) (by rfl) (fun _ h => h) (by kernel_rfl) (he_len h) ?_; simp only [Act.put, List.setIfInBounds_toArray, List.set_cons_zero, List.set_cons_succ])))
    refine Txt.tl_call Tryz.func33 (by kernel_rfl) (by kernel_rfl) (by rfl) (by rfl) (by rfl) (vs := #[.agg (he h).toArray, .slice a n c]) (verdict_any _ (HF.out.keep HM.out.keep (fun h => h)) (HK.out.keep HM.out.keep (fun h => h)) h (HHo.out.calm HM.out.keep) a n c K (HA.out.calm HM.out.keep) (fun x hx => (HKo.out x hx).calm HM.out.keep) (by have := Hn.out; omega)) ?_
    rintro e w2 ⟨rfl, k2⟩
    have HM : Hid _ := HM.out.calm k2
    clear k2
    refine ⟨_, rfl, HSof.out _ HM.out, ?_⟩
    simp only [Act.put, List.setIfInBounds_toArray, List.set_cons_zero, List.set_cons_succ]
    (repeat (first | (refine Txt.tl_pure (v := ?_) (by rfl) ?_ ?_; rotate_left; (focus (intro _; go_simp; try with_reducible rfl)); simp only [Act.put, List.setIfInBounds_toArray, List.set_cons_zero, List.set_cons_succ]) | (refine Txt.tl_rowN (n := 38) (ty := 30) (by rfl) (by rfl) (by rfl) (HM.out.range 0 rfl) (by kernel_rfl) (he_len h) ?_; simp only [Act.put, List.setIfInBounds_toArray, List.set_cons_zero, List.set_cons_succ]) | (refine Txt.tl_rowSN (n := 38) (ty := 30) (by rfl) (by rfl) (by rfl) (fun _ h => h) (by kernel_rfl) (he_len h) ?_; simp only [Act.put, List.setIfInBounds_toArray, List.set_cons_zero, List.set_cons_succ])))
    refine Txt.tl_call Tryz.func34 (by kernel_rfl) (by kernel_rfl) (by rfl) (by rfl) (by rfl) (vs := #[.agg (he h).toArray, .slice a n c]) (xverdict_any _ h (HHo.out.calm HM.out.keep) a n c K (HA.out.calm HM.out.keep) (fun x hx => (HKo.out x hx).calm HM.out.keep) (by have := Hn.out; omega)) ?_
    generalize vrd h K = v
    rintro e w3 ⟨rfl, k3⟩
    have HM : Hid _ := HM.out.calm k3
    clear k3
    refine ⟨_, rfl, HSof.out _ HM.out, ?_⟩
    simp only [Act.put, List.setIfInBounds_toArray, List.set_cons_zero, List.set_cons_succ]
    (repeat (first | (refine Txt.tl_pure (v := ?_) (by rfl) ?_ ?_; rotate_left; (focus (intro _; go_simp; try with_reducible rfl)); simp only [Act.put, List.setIfInBounds_toArray, List.set_cons_zero, List.set_cons_succ]) | (refine Txt.tl_rowN (n := 38) (ty := 30) (by rfl) (by rfl) (by rfl) (HM.out.range 0 rfl) (by kernel_rfl) (he_len h) ?_; simp only [Act.put, List.setIfInBounds_toArray, List.set_cons_zero, List.set_cons_succ]) | (refine Txt.tl_rowSN (n := 38) (ty := 30) (by rfl) (by rfl) (by rfl) (fun _ h => h) (by kernel_rfl) (he_len h) ?_; simp only [Act.put, List.setIfInBounds_toArray, List.set_cons_zero, List.set_cons_succ])))
    refine Txt.tl_call Tryz.func35 (by kernel_rfl) (by kernel_rfl) (by rfl) (by rfl) (by rfl) (vs := #[.agg (he h).toArray, .slice a n c]) (unknown_any _ (HF.out.keep HM.out.keep (fun h => h)) (HK.out.keep HM.out.keep (fun h => h)) h (HHo.out.calm HM.out.keep) a n c K (HA.out.calm HM.out.keep) (fun x hx => (HKo.out x hx).calm HM.out.keep) (by have := Hn.out; omega)) ?_
    generalize hl : unk K h.l = l
    rintro e w4 ⟨v4, rfl, n4⟩
    obtain ⟨a4, c4, e4, at4, _⟩ := n4.1.at
    subst e4
    have k4 := n4.2.1
    clear n4
    have HM : Hid _ := HM.out.calm k4
    clear k4
    refine ⟨_, rfl, HSof.out _ HM.out, ?_⟩
    simp only [Act.put, List.setIfInBounds_toArray, List.set_cons_zero, List.set_cons_succ]
    (repeat (first | (refine Txt.tl_pure (v := ?_) (by rfl) ?_ ?_; rotate_left; (focus (intro _; go_simp; try with_reducible rfl)); simp only [Act.put, List.setIfInBounds_toArray, List.set_cons_zero, List.set_cons_succ]) | (refine Txt.tl_rowN (n := 38) (ty := 30) (by rfl) (by rfl) (by rfl) (HM.out.range 0 rfl) (by kernel_rfl) (he_len h) ?_; simp only [Act.put, List.setIfInBounds_toArray, List.set_cons_zero, List.set_cons_succ]) | (refine Txt.tl_rowSN (n := 38) (ty := 30) (by rfl) (by rfl) (by rfl) (fun _ h => h) (by kernel_rfl) (he_len h) ?_; simp only [Act.put, List.setIfInBounds_toArray, List.set_cons_zero, List.set_cons_succ])))
    refine Txt.tl_call Tryz.func36 (by kernel_rfl) (by kernel_rfl) (by rfl) (by rfl) (by rfl) (vs := #[.agg (he h).toArray, .slice a n c]) (xunknown_any _ h (HHo.out.calm HM.out.keep) a n c K (HA.out.calm HM.out.keep) (fun x hx => (HKo.out x hx).calm HM.out.keep) (by have := Hn.out; omega)) ?_
    rw [hl]
    rintro e w5 ⟨v5, rfl, n5⟩
    obtain ⟨a5, c5, e5, at5, _⟩ := n5.1.at
    subst e5
    have k5 := n5.2.1
    have at4 := at4.calm k5
    clear n5 hl
    have HM : Hid _ := HM.out.calm k5
    clear k5
    refine ⟨_, rfl, HSof.out _ HM.out, ?_⟩
    simp only [Act.put, List.setIfInBounds_toArray, List.set_cons_zero, List.set_cons_succ]
    (repeat (first | (refine Txt.tl_pure (v := ?_) (by rfl) ?_ ?_; rotate_left; (focus (intro _; go_simp; try with_reducible rfl)); simp only [Act.put, List.setIfInBounds_toArray, List.set_cons_zero, List.set_cons_succ]) | (refine Txt.tl_rowN (n := 38) (ty := 30) (by rfl) (by rfl) (by rfl) (HM.out.range 0 rfl) (by kernel_rfl) (he_len h) ?_; simp only [Act.put, List.setIfInBounds_toArray, List.set_cons_zero, List.set_cons_succ]) | (refine Txt.tl_rowSN (n := 38) (ty := 30) (by rfl) (by rfl) (by rfl) (fun _ h => h) (by kernel_rfl) (he_len h) ?_; simp only [Act.put, List.setIfInBounds_toArray, List.set_cons_zero, List.set_cons_succ])))
    refine Txt.tl_call Tryz.func23 (by kernel_rfl) (by kernel_rfl) (by rfl) (by rfl) (by rfl) (vs := #[.slice a4 l.length c4, .slice a5 l.length c5]) (same_any _ a4 a5 _ _ c4 c5 _ _ at4 at5) ?_
    rw [decide_eq_true (rfl : l = l)]
    rintro e w6 ⟨rfl, k6⟩
    have HM : Hid _ := HM.out.calm k6
    clear k6
    refine ⟨_, rfl, HSof.out _ HM.out, ?_⟩
    simp only [Act.put, List.setIfInBounds_toArray, List.set_cons_zero, List.set_cons_succ]
    (repeat (first | (refine Txt.tl_pure (v := ?_) (by rfl) ?_ ?_; rotate_left; (focus (intro _; go_simp; try with_reducible rfl)); simp only [Act.put, List.setIfInBounds_toArray, List.set_cons_zero, List.set_cons_succ]) | (refine Txt.tl_rowN (n := 38) (ty := 30) (by rfl) (by rfl) (by rfl) (HM.out.range 0 rfl) (by kernel_rfl) (he_len h) ?_; simp only [Act.put, List.setIfInBounds_toArray, List.set_cons_zero, List.set_cons_succ]) | (refine Txt.tl_rowSN (n := 38) (ty := 30) (by rfl) (by rfl) (by rfl) (fun _ h => h) (by kernel_rfl) (he_len h) ?_; simp only [Act.put, List.setIfInBounds_toArray, List.set_cons_zero, List.set_cons_succ])))
    refine Txt.tl_call Tryz.func37 (by kernel_rfl) (by kernel_rfl) (by rfl) (by rfl) (by rfl) (vs := #[.slice a n c]) (height_any _ a n c K (HA.out.calm HM.out.keep) (by have := Hn.out; omega)) ?_
    generalize hg : hgt K = g
    rintro e w7 ⟨rfl, k7⟩
    have HM : Hid _ := HM.out.calm k7
    clear k7
    refine ⟨_, rfl, HSof.out _ HM.out, ?_⟩
    simp only [Act.put, List.setIfInBounds_toArray, List.set_cons_zero, List.set_cons_succ]
    (repeat (first | (refine Txt.tl_pure (v := ?_) (by rfl) ?_ ?_; rotate_left; (focus (intro _; go_simp; try with_reducible rfl)); simp only [Act.put, List.setIfInBounds_toArray, List.set_cons_zero, List.set_cons_succ]) | (refine Txt.tl_rowN (n := 38) (ty := 30) (by rfl) (by rfl) (by rfl) (HM.out.range 0 rfl) (by kernel_rfl) (he_len h) ?_; simp only [Act.put, List.setIfInBounds_toArray, List.set_cons_zero, List.set_cons_succ]) | (refine Txt.tl_rowSN (n := 38) (ty := 30) (by rfl) (by rfl) (by rfl) (fun _ h => h) (by kernel_rfl) (he_len h) ?_; simp only [Act.put, List.setIfInBounds_toArray, List.set_cons_zero, List.set_cons_succ])))
    refine Txt.tl_call Tryz.func38 (by kernel_rfl) (by kernel_rfl) (by rfl) (by rfl) (by rfl) (vs := #[.slice a n c]) (xheight_any _ a n c K (HA.out.calm HM.out.keep) (by have := Hn.out; omega)) ?_
    rw [hg]
    clear hg
    rintro e w8 hq8
    obtain ⟨rfl, k8⟩ := calm_of hq8
    clear hq8
    have HM : Hid _ := HM.out.calm k8
    clear k8
    refine ⟨_, rfl, HSof.out _ HM.out, ?_⟩
    simp only [Act.put, List.setIfInBounds_toArray, List.set_cons_zero, List.set_cons_succ]
    (repeat (first | (refine Txt.tl_pure (v := ?_) (by rfl) ?_ ?_; rotate_left; (focus (intro _; go_simp; try with_reducible rfl)); simp only [Act.put, List.setIfInBounds_toArray, List.set_cons_zero, List.set_cons_succ]) | (refine Txt.tl_rowN (n := 38) (ty := 30) (by rfl) (by rfl) (by rfl) (HM.out.range 0 rfl) (by kernel_rfl) (he_len h) ?_; simp only [Act.put, List.setIfInBounds_toArray, List.set_cons_zero, List.set_cons_succ]) | (refine Txt.tl_rowSN (n := 38) (ty := 30) (by rfl) (by rfl) (by rfl) (fun _ h => h) (by kernel_rfl) (he_len h) ?_; simp only [Act.put, List.setIfInBounds_toArray, List.set_cons_zero, List.set_cons_succ])))
    refine Txt.tl_call Tryz.func30 (by kernel_rfl) (by kernel_rfl) (by rfl) (by rfl) (by rfl) (vs := #[]) (awake15 _ (HF.out.keep HM.out.keep (fun h => h)) (HK.out.keep HM.out.keep (fun h => h))) ?_
    rintro e w9 ⟨rfl, k9⟩
    have HM : Hid _ := HM.out.calm k9
    clear k9
    refine ⟨_, rfl, HSof.out _ HM.out, ?_⟩
    simp only [Act.put, List.setIfInBounds_toArray, List.set_cons_zero, List.set_cons_succ]
    (repeat (first | (refine Txt.tl_pure (v := ?_) (by rfl) ?_ ?_; rotate_left; (focus (intro _; go_simp; try with_reducible rfl)); simp only [Act.put, List.setIfInBounds_toArray, List.set_cons_zero, List.set_cons_succ]) | (refine Txt.tl_rowN (n := 38) (ty := 30) (by rfl) (by rfl) (by rfl) (HM.out.range 0 rfl) (by kernel_rfl) (he_len h) ?_; simp only [Act.put, List.setIfInBounds_toArray, List.set_cons_zero, List.set_cons_succ]) | (refine Txt.tl_rowSN (n := 38) (ty := 30) (by rfl) (by rfl) (by rfl) (fun _ h => h) (by kernel_rfl) (he_len h) ?_; simp only [Act.put, List.setIfInBounds_toArray, List.set_cons_zero, List.set_cons_succ])))
    refine Txt.tl_nil ?_
    go_wp2
    go_ret
    exact ⟨rfl, Keep.below HM.out.keep (Nat.le_refl _) (fun _ h => h.elim)⟩
theorem rdHl : Opn.Rd Tryz.prog 22 1 (fun x : Opn.Sl HH => [x.val]) (Opn.SlAt 38 layH factH) (fun x => (x.els.map fun x => x.2.2.1.size).sum + 1) :=
  Opn.rd_slice Tryz.underlying22 (by kernel_rfl) (by omega) rdH
set_option maxRecDepth 100000 in
theorem own : ownKnob Tryz.prog.godebug = none := by kernel_rfl
set_option maxRecDepth 100000 in
theorem laidOut : laidOutB Tryz.prog = true := by kernel_rfl
set_option maxRecDepth 100000 in
theorem contract (H : Type) (enc : TypeId × Value → H) (W : World) (base : Nat) (args : Array Value) (ds gs : List (DataW H)) (before : List MemPlace)
    (hval : ∀ (j : Nat) t v, Tryz.f6.params[j]? = some t → args[j]? = some v → Value.okWide Tryz.prog W .any base t v)
    (hW : DataW.Whole enc Tryz.prog Tryz.f6.params.toList Rows.ruleVerdictsSpec.vars false W args.toList ds gs before) (hL : laidMetH Tryz.prog Rows.ruleVerdictsRow.laid W) :
    Calls Tryz.prog 6 args W fun e W' => ∃ v, e = .returned v ∧ Rows.ruleVerdictsSpec.post enc Tryz.prog Tryz.f6 false true false false W args v W' := by
  have hW' := hW
  have hTab := Lad.sha_of hL
  obtain ⟨p, q, hA0, hV, rfl, hfz, hnd⟩ := hW
  have hA : DataW.TrodAll enc Tryz.prog W 0 (fun _ => true) true Tryz.f6.params.toList args.toList ds p := hA0
  rw [Tryz.params6] at hA hval
  obtain ⟨rfl, rfl⟩ := trodVars_none hV
  obtain ⟨v0, vs0, d0, ds0, p0, q0, hargs, rfl, rfl, h0, r0⟩ := trodAll_cons hA
  obtain ⟨v1, vs1, d1, ds1, p1, q1, rfl, rfl, rfl, h1, r1⟩ := trodAll_cons r0
  obtain ⟨rfl, rfl, rfl⟩ := trodAll_nil r1
  obtain rfl : args = #[v0, v1] := by cases args; simp_all
  obtain ⟨x, rfl, f0, _⟩ := Opn.open_st Tryz.underlying30 rdH (hval 0 _ v0 rfl rfl) h0
  obtain ⟨s, rfl, hs, _⟩ := Opn.open_sl Tryz.underlying22 rdHl (hval 1 _ v1 rfl rfl) h1
  refine (walk x s W hTab f0 hs).mono fun e W' ⟨he, bel⟩ => ?_
  subst he
  exact ⟨_, rfl, Opn.law_post laidOut (by kernel_rfl) rfl Tryz.underlying4 rfl rfl hW' bel⟩
set_option maxRecDepth 100000 in
theorem lifted (os : Os) (started : os.Started) (H : Type) (enc : TypeId × Value → H) :
    ReturnsInHanded {} Tryz.checked os 6 .any (fun w args => (Rows.ruleVerdictsSpec.pre enc Tryz.prog Tryz.f6 [] false w args ∧ laidMetH Tryz.prog Rows.ruleVerdictsRow.laid w) ∧ sizedMet enc Tryz.prog Tryz.f6 (OpenSpec.ofChange Rows.ruleVerdictsSpec) false w args)
      (Rows.ruleVerdictsSpec.post enc Tryz.prog Tryz.f6 false true false false) := by
  refine returnsInHanded_of_change_and (C := Tryz.checked) (X := fun w _ => laidMetH Tryz.prog Rows.ruleVerdictsRow.laid w) (fun _ _ _ hh h => h.of_heap hh) own started (by kernel_rfl) Tryz.func6
    (ChangeSpec.witness_shaped (enc := enc) (C := Tryz.checked) (os := os) (X := fun w _ => laidMetH Tryz.prog Rows.ruleVerdictsRow.laid w) false (World.laidAll Tryz.prog os Rows.ruleVerdictsRow.laid) #[.agg hz0, .slice none 0 0] 8 (World.laidAll_os _ _ _)
      (World.shaped_of_ZipB (by kernel_rfl) (by kernel_rfl)) (by kernel_rfl) (by kernel_rfl) (by kernel_rfl)
      (by rw [MakeChecks.laidMetH_plain _ _ _ (by kernel_rfl)]; exact laidMet_laidAll _ (by kernel_rfl) (by kernel_rfl))) ?_
  intro W base args ds gs before hval0 hW _ _ hL _
  exact contract H enc W base args ds gs before hval0 hW hL
theorem over : Rows.ruleVerdictsRow.holds Tryz.pinned (OpenSpec.ofChange Rows.ruleVerdictsSpec) :=
  OpenClaim.holds_of_wide 6 Tryz.f6 rfl rfl rfl rfl rfl rfl rfl ⟨rfl, rfl, rfl, rfl, rfl⟩ rfl rfl rfl rfl rfl (by kernel_rfl) Tryz.func6 (by kernel_rfl)
    (of_decide_eq_true (by kernel_rfl)) (by unfold Func.isWrapper; first | (rw [if_pos (by decide +kernel)]; kernel_rfl) | (rw [if_neg (by decide +kernel)]; exact ⟨rfl, rfl⟩))
    (fun os started H enc _ => lifted os started H enc)
theorem proved : Rows.RuleVerdictsCardSaid :=
  Claim7.holds_tied_plain_at .later [] [.data, .data] true _ false over (fun _ h => by cases h) (by kernel_rfl) (fun _ h => by cases h) ruleVerdicts_row_tie rfl ⟨rfl, rfl⟩ (by kernel_rfl) rfl
    (fun f fn hf hfn => by
      obtain rfl : f = 6 := Option.some.inj ((show Tryz.prog.funcNamed "petrel/petrellaw15.RuleVerdicts" = some 6 by kernel_rfl).symm.trans hf) |>.symm
      obtain rfl : fn = Tryz.f6 := (Option.some.inj (Tryz.func6.symm.trans hfn)).symm
      exact ⟨by kernel_rfl, fun j t ht => by
        rw [Tryz.params6] at ht
        have hm : t ∈ [30, 22] := by simpa using Array.mem_of_getElem? ht
        have hall : ([30, 22].all fun u => !Tryz.prog.wantsStandIn u) = true := by kernel_rfl
        exact (show Tryz.prog.wantsStandIn t = false by simpa using List.all_eq_true.1 hall t hm)⟩)
    (by kernel_rfl)
end RuleVerdicts
end Go.Proofs.YtdpkklinpbmkfaaGreatDoor
