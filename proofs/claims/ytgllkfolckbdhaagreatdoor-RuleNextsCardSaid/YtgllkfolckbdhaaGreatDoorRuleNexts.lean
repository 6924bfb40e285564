/-
  'petrellaw15.RuleNexts': a header behind any heads, or why there is none. For every input.
-/
import Derived.Test.YtgllkfolckbdhaaGreatDoorNx6
import Derived.Test.YtgllkfolckbdhaaGreatDoorGLn
import Derived.Test.YtgllkfolckbdhaaGreatDoorOpnU
import Derived.Test.YtgllkfolckbdhaaGreatDoorTie
import Derived.Test.YtgllkfolckbdhaaGreatDoorCards
import Derived.SevenTiedAt
import Derived.Stop.Joined
set_option linter.unusedVariables false
set_option linter.unusedSimpArgs false
namespace Go.Proofs.YtgllkfolckbdhaaGreatDoor
open Go.RowKit
open Go.ChangeMaps (open_string shut_string)
namespace RuleNexts
open Oct Ids Gn Hd Ru Nx Go.ChangeShapes Go.WideShapes Go.ChangeAt
open Mem (M It blk ids rows)
theorem built_T (T : ByteArray) : Tryz.prog.built 28 [(2, .string T)] = some (hd (.slice none 0 0) 0 T 0 0 0 Z32).toArray := by
  rw [built_H, show hz0 = (hd (.slice none 0 0) 0 ByteArray.empty 0 0 0 Z32).toArray from rfl]
  rw [St.fill_cons (off := 2) (size := 1) (cs := [.string T]) rfl rfl rfl (Nat.le_of_ble_eq_true rfl), Instr.fill]
  rfl
def hT0 (T : ByteArray) : Hh := ⟨none, 0, 0, [], 0, T, 0, 0, 0, Z32, rfl⟩
set_option maxRecDepth 100000 in
set_option maxHeartbeats 4000000 in
theorem walk (s : Opn.Sl HH) (T : ByteArray) (A Q Z : Int) (m : List UInt8) (hm : m.length = 32) (hTs : T.size ≤ maxLen) (w : World) (hT : Sha.TabF w ∧ Sha.TabK w) (hs : Opn.SlAt 38 layH factH w s) :
    Calls Tryz.prog 3 #[.slice s.a s.len s.cap, .string T, .int .i64 A, .int .i64 Q, .int .i64 Z, idv m] w fun e w' => e = .returned (.bool true) ∧ Below w.heap.size w w' := by
  obtain ⟨hA, hin⟩ := in_row hs
  obtain ⟨a, n, c, els⟩ := s
  simp only at hA hin ⊢
  generalize els.map toH = K at hA hin
  clear hs els
  have HF : Hid (Sha.TabF w) := hT.1
  have HK : Hid (Sha.TabK w) := hT.2
  have Hm : Hid (m.length = 32) := hm
  have HTs : Hid (T.size ≤ maxLen) := hTs
  have HB : Hid (Tryz.prog.built 28 [(2, .string T)] = some (he (hT0 T)).toArray) := built_T T
  have HMu : Hid (∀ w', Keep (fun _ => False) w w' → Calls Tryz.prog 6 #[.agg (he (hT0 T)).toArray, .slice a n c] w' (MuchPost w' (hT0 T) n K)) := fun w' k => much_any w' (hT0 T) ⟨⟨rfl, by simp [hT0], Nat.zero_le _, .inl rfl⟩, hTs⟩ a n c K (hA.calm k) (fun x hx => ⟨(hin x hx).1.calm k, (hin x hx).2⟩)
  have HM : Hid (M (fun _ => False) w _ [blk w.heap.size (.cells (m.map bv).toArray 24)]) := (M.start _ w).alloc (.cells (m.map bv).toArray 24) rfl
  have HA : Hid (St.At 38 he w a n K) := hA
  have HIn : Hid (∀ x ∈ K, Hin w x) := hin
  clear hT hm hTs hA hin
  go_enter Tryz.func3, Tryz.ntmps3
  go_wp2_with (first | (refine wl_buildP (T := 28) rfl rfl [(2, .string T)] rfl HB.out ?_; simp only [Act.put, List.setIfInBounds_toArray, List.set_cons_zero, List.set_cons_succ]) | (go_at_call 6; refine (HMu.out _ HM.out.keep).mono ?_; rintro e w1 ⟨p, rfl, k1, hp⟩; have HM : Hid _ := HM.out.calm k1; have HP : Hid (p = false → n ≤ 20 ∧ (hT0 T).n ≤ 20 ∧ (hT0 T).T.size ≤ 100 ∧ ∀ x ∈ K, x.n ≤ 20 ∧ x.T.size ≤ 100) := hp; clear k1 hp) | ((with_reducible refine at_load 24 ?_); refine wl_loadG (by rfl) rfl rfl Hm.out (HM.out.range 0 rfl) ?_; simp only [Act.put, List.setIfInBounds_toArray, List.set_cons_zero, List.set_cons_succ]))
  · go_wp2_with (first | (go_at_call 7; refine (awake15 _ (HF.out.keep HM.out.keep (fun h => h)) (HK.out.keep HM.out.keep (fun h => h))).mono ?_; rintro e w9 ⟨rfl, k9⟩; have HM : Hid _ := HM.out.calm k9; clear k9))
    go_ret
    exact ⟨rfl, Keep.below HM.out.keep (Nat.le_refl _) (fun _ h => h.elim)⟩
  · obtain ⟨hn, _, hT1, hx⟩ := HP.out (by assumption)
    have HKo : Hid (∀ x ∈ K, Hok w x) := fun x hx' => ok_of (HIn.out x hx') (by have := (hx x hx').1; omega)
    have HN1 : Hid (∀ w', Keep (fun _ => False) w w' → Calls Tryz.prog 8 #[.slice a n c, .string T, .int .i64 A, .int .i64 Q, .int .i64 Z, idv m] w' (NextPost w' K T A Q Z m)) := fun w' k => next_any w' (HF.out.keep k (fun h => h)) (HK.out.keep k (fun h => h)) a n c K (HA.out.calm k) (fun x hx => (HKo.out x hx).calm k) hn T A Q Z m Hm.out HTs.out
    have HN2 : Hid (∀ w', Keep (fun _ => False) w w' → Calls Tryz.prog 9 #[.slice a n c, .string T, .int .i64 A, .int .i64 Q, .int .i64 Z, idv m] w' (NextPost w' K T A Q Z m)) := fun w' k => xnext_any w' a n c K (HA.out.calm k) (fun x hx => (HKo.out x hx).calm k) hn T A Q Z m Hm.out HTs.out
    clear hx HP HMu HB hn hT1
    rcases next_two K T A Q Z m with ⟨v, hv⟩ | ⟨l, G, -, -, -, -, hv⟩
    · have HV : Hid (∀ w e w', NextPost w K T A Q Z m e w' → e = .returned (.tuple #[.agg hz0, .int .i64 v]) ∧ Keep (fun _ => False) w w') := hv
      have HSm : Hid (∀ w1, Calls Tryz.prog 10 #[.agg hz0, .agg hz0] w1 fun e w' => e = .returned (.bool true) ∧ Keep (fun _ => False) w1 w') := fun w1 => rsame_h w1 none none 0 0 0 0 [] [] 0 0 ByteArray.empty ByteArray.empty 0 0 0 0 0 0 Z32 Z32 rfl rfl ⟨rfl, by simp, Nat.zero_le _, .inl rfl⟩ ⟨rfl, by simp, Nat.zero_le _, .inl rfl⟩ true (smh_self _ _ _ _ _ _ _)
      have hvv : (v == v) = true := by simp
      clear hv
      go_wp2_with (first | ((with_reducible refine at_load 24 ?_); refine wl_loadG (by rfl) rfl rfl Hm.out (HM.out.range 0 rfl) ?_; simp only [Act.put, List.setIfInBounds_toArray, List.set_cons_zero, List.set_cons_succ]) | (go_at_call 8; refine (HN1.out _ HM.out.keep).mono ?_; intro e w2 hq; obtain ⟨rfl, k2⟩ := HV.out _ _ _ hq; have HM : Hid _ := HM.out.calm k2; clear k2 hq) | (go_at_call 9; refine (HN2.out _ HM.out.keep).mono ?_; intro e w3 hq; obtain ⟨rfl, k3⟩ := HV.out _ _ _ hq; have HM : Hid _ := HM.out.calm k3; clear k3 hq) | ((with_reducible refine at_alloc 28 ?_); refine St.wl_alloc tyH rfl rfl (by (try simp only [World.size_alloc]); rfl) ?_; simp only [Act.put, List.setIfInBounds_toArray, List.set_cons_zero, List.set_cons_succ]) | ((with_reducible refine at_store 28 ?_); first | (refine St.wl_storeN (W := w3) tyH rfl rfl rfl rfl rfl (by (try simp only [World.size_alloc])) (show _ = Value.agg hz0 from rfl) rfl rfl (hd_one _ _ _ _ _ _ _ _ _) ?_; have HM : Hid _ := HM.out.alloc (.cells hz0 28) rfl) | (refine St.wl_storeN (W := w2) tyH rfl rfl rfl rfl rfl (by (try simp only [World.size_alloc])) (show _ = Value.agg hz0 from rfl) rfl rfl (hd_one _ _ _ _ _ _ _ _ _) ?_; have HM : Hid _ := HM.out.alloc (.cells hz0 28) rfl)) | ((with_reducible refine at_load 28 ?_); first | (refine St.wl_load tyH (by rfl) rfl rfl (HM.out.range 1 rfl) (hd_len _ _ _ _ _ _ _ (rfl : Z32.length = 32)) ?_; simp only [Act.put, List.setIfInBounds_toArray, List.set_cons_zero, List.set_cons_succ]) | (refine St.wl_load tyH (by rfl) rfl rfl (HM.out.range 2 rfl) (hd_len _ _ _ _ _ _ _ (rfl : Z32.length = 32)) ?_; simp only [Act.put, List.setIfInBounds_toArray, List.set_cons_zero, List.set_cons_succ])) | (go_at_call 10; refine (HSm.out _).mono ?_; rintro e w4 ⟨rfl, k4⟩; have HM : Hid _ := HM.out.calm k4; clear k4) | (go_at_call 7; refine (awake15 _ (HF.out.keep HM.out.keep (fun h => h)) (HK.out.keep HM.out.keep (fun h => h))).mono ?_; rintro e w9 ⟨rfl, k9⟩; have HM : Hid _ := HM.out.calm k9; clear k9))
      go_ret
      exact ⟨rfl, Keep.below HM.out.keep (Nat.le_refl _) (fun _ h => h.elim)⟩
    · have HV : Hid (∀ w e w', NextPost w K T A Q Z m e w' → ∃ a c, e = .returned (.tuple #[.agg (hd (.slice a l.length c) G T A Q Z m).toArray, .int .i64 0]) ∧ New w w' (.slice a l.length c) l) := hv
      have HSm : Hid (∀ w1 a1 c1 a2 c2, At w1 a1 l.length l → At w1 a2 l.length l → Calls Tryz.prog 10 #[.agg (hd (.slice a1 l.length c1) G T A Q Z m).toArray, .agg (hd (.slice a2 l.length c2) G T A Q Z m).toArray] w1 fun e w' => e = .returned (.bool true) ∧ Keep (fun _ => False) w1 w') := fun w1 a1 c1 a2 c2 h1 h2 => rsame_h w1 a1 a2 l.length c1 l.length c2 l l G G T T A A Q Q Z Z m m Hm.out Hm.out h1 h2 true (smh_self _ _ _ _ _ _ _)
      clear hv
      go_wp2_with (first | ((with_reducible refine at_load 24 ?_); refine wl_loadG (by rfl) rfl rfl Hm.out (HM.out.range 0 rfl) ?_; simp only [Act.put, List.setIfInBounds_toArray, List.set_cons_zero, List.set_cons_succ]) | (go_at_call 8; refine (HN1.out _ HM.out.keep).mono ?_; intro e w2 hq; obtain ⟨a2, c2, rfl, n2⟩ := HV.out _ _ _ hq; have HM : Hid _ := HM.out.add (x := ids (.slice a2 l.length c2) l) n2.2.1 n2.1 (fun k hk => ⟨n2.2.2 k hk, n2.1.lt hk⟩); clear n2 hq) | (go_at_call 9; refine (HN2.out _ HM.out.keep).mono ?_; intro e w3 hq; obtain ⟨a3, c3, rfl, n3⟩ := HV.out _ _ _ hq; have HM : Hid _ := HM.out.add (x := ids (.slice a3 l.length c3) l) n3.2.1 n3.1 (fun k hk => ⟨n3.2.2 k hk, n3.1.lt hk⟩); clear n3 hq) | ((with_reducible refine at_alloc 28 ?_); refine St.wl_alloc tyH rfl rfl (by (try simp only [World.size_alloc]); rfl) ?_; simp only [Act.put, List.setIfInBounds_toArray, List.set_cons_zero, List.set_cons_succ]) | ((with_reducible refine at_store 28 ?_); first | (refine St.wl_storeN (W := w3) tyH rfl rfl rfl rfl rfl (by (try simp only [World.size_alloc])) (show _ = Value.agg (hd (.slice a3 l.length c3) G T A Q Z m).toArray from rfl) (hd_sz' Hm.out) rfl (hd_one _ _ _ _ _ _ _ _ _) ?_; have HM : Hid _ := HM.out.alloc (.cells (hd (.slice a3 l.length c3) G T A Q Z m).toArray 28) rfl) | (refine St.wl_storeN (W := w2) tyH rfl rfl rfl rfl rfl (by (try simp only [World.size_alloc])) (show _ = Value.agg (hd (.slice a2 l.length c2) G T A Q Z m).toArray from rfl) (hd_sz' Hm.out) rfl (hd_one _ _ _ _ _ _ _ _ _) ?_; have HM : Hid _ := HM.out.alloc (.cells (hd (.slice a2 l.length c2) G T A Q Z m).toArray 28) rfl)) | ((with_reducible refine at_load 28 ?_); first | (refine St.wl_load tyH (by rfl) rfl rfl (HM.out.range 2 rfl) (hd_len _ _ _ _ _ _ _ Hm.out) ?_; simp only [Act.put, List.setIfInBounds_toArray, List.set_cons_zero, List.set_cons_succ]) | (refine St.wl_load tyH (by rfl) rfl rfl (HM.out.range 4 rfl) (hd_len _ _ _ _ _ _ _ Hm.out) ?_; simp only [Act.put, List.setIfInBounds_toArray, List.set_cons_zero, List.set_cons_succ])) | (go_at_call 10; refine (HSm.out _ a2 c2 a3 c3 (iat (HM.out.get 1 rfl)) (iat (HM.out.get 3 rfl))).mono ?_; rintro e w4 ⟨rfl, k4⟩; have HM : Hid _ := HM.out.calm k4; clear k4) | (go_at_call 7; refine (awake15 _ (HF.out.keep HM.out.keep (fun h => h)) (HK.out.keep HM.out.keep (fun h => h))).mono ?_; rintro e w9 ⟨rfl, k9⟩; have HM : Hid _ := HM.out.calm k9; clear k9))
      go_ret
      exact ⟨rfl, Keep.below HM.out.keep (Nat.le_refl _) (fun _ h => h.elim)⟩
theorem rdHl : Opn.Rd Tryz.prog 22 1 (fun x : Opn.Sl HH => [x.val]) (Opn.SlAt 38 layH factH) (fun x => (x.els.map fun x => x.2.2.1.size).sum + 1) :=
  Opn.rd_slice Tryz.underlying22 (by kernel_rfl) (by omega) rdH
set_option maxRecDepth 100000 in
theorem own : ownKnob Tryz.prog.godebug = none := by kernel_rfl
set_option maxRecDepth 100000 in
theorem laidOut : laidOutB Tryz.prog = true := by kernel_rfl
set_option maxRecDepth 100000 in
theorem contract (H : Type) (enc : TypeId × Value → H) (W : World) (base : Nat) (args : Array Value) (ds gs : List (DataW H)) (before : List MemPlace)
    (hval : ∀ (j : Nat) t v, Tryz.f3.params[j]? = some t → args[j]? = some v → Value.okWide Tryz.prog W .any base t v)
    (hW : DataW.Whole enc Tryz.prog Tryz.f3.params.toList Rows.ruleNextsSpec.vars false W args.toList ds gs before) (hL : laidMetH Tryz.prog Rows.ruleNextsRow.laid W) :
    Calls Tryz.prog 3 args W fun e W' => ∃ v, e = .returned v ∧ Rows.ruleNextsSpec.post enc Tryz.prog Tryz.f3 false true false false W args v W' := by
  have hW' := hW
  have hTab := Lad.sha_of hL
  obtain ⟨p, q, hA0, hV, rfl, hfz, hnd⟩ := hW
  have hA : DataW.TrodAll enc Tryz.prog W 0 (fun _ => true) true Tryz.f3.params.toList args.toList ds p := hA0
  rw [Tryz.params3] at hA hval
  obtain ⟨rfl, rfl⟩ := trodVars_none hV
  obtain ⟨v0, vs0, d0, ds0, p0, q0, hargs, rfl, rfl, h0, r0⟩ := trodAll_cons hA
  obtain ⟨v1, vs1, d1, ds1, p1, q1, rfl, rfl, rfl, h1, r1⟩ := trodAll_cons r0
  obtain ⟨v2, vs2, d2, ds2, p2, q2, rfl, rfl, rfl, h2, r2⟩ := trodAll_cons r1
  obtain ⟨v3, vs3, d3, ds3, p3, q3, rfl, rfl, rfl, h3, r3⟩ := trodAll_cons r2
  obtain ⟨v4, vs4, d4, ds4, p4, q4, rfl, rfl, rfl, h4, r4⟩ := trodAll_cons r3
  obtain ⟨v5, vs5, d5, ds5, p5, q5, rfl, rfl, rfl, h5, r5⟩ := trodAll_cons r4
  obtain ⟨rfl, rfl, rfl⟩ := trodAll_nil r5
  obtain rfl : args = #[v0, v1, v2, v3, v4, v5] := by cases args; simp_all
  obtain ⟨s, rfl, hs, _⟩ := Opn.open_sl Tryz.underlying22 rdHl (hval 0 _ v0 rfl rfl) h0
  obtain ⟨T, rfl, rfl, rfl, hTs⟩ := open_string Tryz.underlying9 (hval 1 _ v1 rfl rfl) h1
  obtain ⟨A, rfl, rfl, rfl, _⟩ := open_int Tryz.underlying3 (hval 2 _ v2 rfl rfl) h2
  obtain ⟨Q, rfl, rfl, rfl, _⟩ := open_int Tryz.underlying3 (hval 3 _ v3 rfl rfl) h3
  obtain ⟨Z, rfl, rfl, rfl, _⟩ := open_int Tryz.underlying3 (hval 4 _ v4 rfl rfl) h4
  obtain ⟨m, rfl, lm⟩ := Opn.open_id (hval 5 _ v5 rfl rfl) h5
  refine (walk s T A Q Z m lm hTs W hTab hs).mono fun e W' ⟨he, bel⟩ => ?_
  subst he
  exact ⟨_, rfl, Opn.law_post laidOut (by kernel_rfl) rfl Tryz.underlying4 rfl rfl hW' bel⟩
set_option maxRecDepth 100000 in
theorem lifted (os : Os) (started : os.Started) (H : Type) (enc : TypeId × Value → H) :
    ReturnsInHanded {} Tryz.checked os 3 .any (fun w args => (Rows.ruleNextsSpec.pre enc Tryz.prog Tryz.f3 [] false w args ∧ laidMetH Tryz.prog Rows.ruleNextsRow.laid w) ∧ sizedMet enc Tryz.prog Tryz.f3 (OpenSpec.ofChange Rows.ruleNextsSpec) false w args)
      (Rows.ruleNextsSpec.post enc Tryz.prog Tryz.f3 false true false false) := by
  refine returnsInHanded_of_change_and (C := Tryz.checked) (X := fun w _ => laidMetH Tryz.prog Rows.ruleNextsRow.laid w) (fun _ _ _ hh h => h.of_heap hh) own started (by kernel_rfl) Tryz.func3
    (ChangeSpec.witness_shaped (enc := enc) (C := Tryz.checked) (os := os) (X := fun w _ => laidMetH Tryz.prog Rows.ruleNextsRow.laid w) false (World.laidAll Tryz.prog os Rows.ruleNextsRow.laid) #[.slice none 0 0, .string .empty, .int .i64 0, .int .i64 0, .int .i64 0, idv (List.replicate 32 0)] 8 (World.laidAll_os _ _ _)
      (World.shaped_of_ZipB (by kernel_rfl) (by kernel_rfl)) (by kernel_rfl) (by kernel_rfl) (by kernel_rfl)
      (by rw [MakeChecks.laidMetH_plain _ _ _ (by kernel_rfl)]; exact laidMet_laidAll _ (by kernel_rfl) (by kernel_rfl))) ?_
  intro W base args ds gs before hval0 hW _ _ hL _
  exact contract H enc W base args ds gs before hval0 hW hL
theorem over : Rows.ruleNextsRow.holds Tryz.pinned (OpenSpec.ofChange Rows.ruleNextsSpec) :=
  OpenClaim.holds_of_wide 3 Tryz.f3 rfl rfl rfl rfl rfl rfl rfl ⟨rfl, rfl, rfl, rfl, rfl⟩ rfl rfl rfl rfl rfl (by kernel_rfl) Tryz.func3 (by kernel_rfl)
    (of_decide_eq_true (by kernel_rfl)) (by unfold Func.isWrapper; first | (rw [if_pos (by decide +kernel)]; kernel_rfl) | (rw [if_neg (by decide +kernel)]; exact ⟨rfl, rfl⟩))
    (fun os started H enc _ => lifted os started H enc)
theorem proved : Rows.RuleNextsCardSaid :=
  Claim7.holds_tied_plain_at .later [] [.data, .data] true _ false over (fun _ h => by cases h) (by kernel_rfl) (fun _ h => by cases h) ruleNexts_row_tie rfl ⟨rfl, rfl⟩ (by kernel_rfl) rfl
    (fun f fn hf hfn => by
      obtain rfl : f = 3 := Option.some.inj ((show Tryz.prog.funcNamed "petrel/petrellaw15.RuleNexts" = some 3 by kernel_rfl).symm.trans hf) |>.symm
      obtain rfl : fn = Tryz.f3 := (Option.some.inj (Tryz.func3.symm.trans hfn)).symm
      exact ⟨by kernel_rfl, fun j t ht => by
        rw [Tryz.params3] at ht
        have hm : t ∈ [22, 9, 3, 3, 3, 24] := by simpa using Array.mem_of_getElem? ht
        have hall : ([22, 9, 3, 3, 3, 24].all fun u => !Tryz.prog.wantsStandIn u) = true := by kernel_rfl
        exact (show Tryz.prog.wantsStandIn t = false by simpa using List.all_eq_true.1 hall t hm)⟩)
    (by kernel_rfl)
end RuleNexts
end Go.Proofs.YtgllkfolckbdhaaGreatDoor
