/-
  'petrellaw15.RuleChain': headers made one behind the other, each behind any of those ahead: each may be accepted by those ahead of it, and by no beginning of them that has not all its parents; or two unlike ones of them have one id. For every input.
-/
import Derived.Test.YtdpkklinpbmkfaaGreatDoorCh2
import Derived.Test.YtdpkklinpbmkfaaGreatDoorGLn
import Derived.Test.YtdpkklinpbmkfaaGreatDoorTie
import Derived.Test.YtdpkklinpbmkfaaGreatDoorCards
import Derived.SevenTiedAt
import Derived.Stop.Joined
set_option linter.unusedVariables false
set_option linter.unusedSimpArgs false
namespace Go.Proofs.YtdpkklinpbmkfaaGreatDoor
open Go.RowKit
namespace RuleChain
open Oct Ids Gn Hd Ru Nx Go.ChangeShapes Go.WideShapes Go.ChangeAt
open Mem (M It blk ids rows)
theorem okcase (b : Bool) : b = true ∨ b = false := by cases b; exact .inr rfl; exact .inl rfl
theorem u8_wf {x : Int} (h : (Lit.int .u8 x).wf = true) : 0 ≤ x ∧ x ≤ 255 := by
  have q := h
  simp [Lit.wf, IntKind.min, IntKind.max, IntKind.signed, IntKind.bits] at q
  omega
theorem row8 {w : World} {s : Opn.Sl Int} (h : Opn.SlAt 1 (fun x : Int => [Value.int .u8 x]) (fun _ x => (Lit.int .u8 x).wf = true) w s) : St.At 1 (fun x : Int => [Value.int .u8 x]) w s.a s.len s.els ∧ ∀ x ∈ s.els, 0 ≤ x ∧ x ≤ 255 := by
  obtain ⟨h1, h2, h3, h4⟩ := h
  refine ⟨⟨h1, Nat.le_trans h2 h3, h4.imp id fun ⟨b, off, ha, hb, hr⟩ => ⟨b, off, ha, hb, fun i x hi => (hr i x hi).1⟩⟩, fun x hx => ?_⟩
  rcases h4 with h4 | ⟨b, off, _, _, hr⟩
  · rw [h4] at h1
    rw [List.eq_nil_of_length_eq_zero h1] at hx
    cases hx
  · obtain ⟨i, hi⟩ := List.getElem?_of_mem hx
    have := (hr i x hi).2
    exact u8_wf this
set_option maxRecDepth 100000 in
set_option maxHeartbeats 4000000 in
theorem walk (s : Opn.Sl Int) (q : Int) (hq : 0 ≤ q ∧ q ≤ 255) (w : World) (hT : Sha.TabF w ∧ Sha.TabK w) (hs : Opn.SlAt 1 (fun x : Int => [Value.int .u8 x]) (fun _ x => (Lit.int .u8 x).wf = true) w s) :
    Calls Tryz.prog 7 #[.slice s.a s.len s.cap, .int .u8 q] w fun e w' => e = .returned (.bool true) ∧ Below w.heap.size w w' := by
  obtain ⟨hA, hL⟩ := row8 hs
  have HF : Hid (Sha.TabF w) := hT.1
  have HK : Hid (Sha.TabK w) := hT.2
  have HCh := chain_any w hT.1 hT.2 s.a s.len s.cap s.els hA hL q hq
  clear hs hA hL hT
  go_enter Tryz.func7, Tryz.ntmps7
  go_wp2_with (first | (go_at_call 39; refine HCh.mono ?_; rintro e w1 ⟨v, K, ok, rfl, m1, hKl, hC, htw⟩; have HM : Hid _ := m1; have HKl : Hid (K.length ≤ 10) := hKl; have HC : Hid (Chn K) := hC; have HTw : Hid (ok = false → Tw K) := htw; obtain ⟨a1, c1, e1, _⟩ := (show St.Own 30 38 he w1 v K from m1.get 0 rfl).any; subst e1; clear m1 hKl hC htw; rcases okcase ok with rfl | rfl) | (go_at_call 18; refine (twins_any _ a1 _ c1 K (hat (HM.out.get 0 rfl)) (fun x hx => ⟨(show ∀ x ∈ K, At _ x.a x.n x.l from HM.out.get 1 rfl) x hx, by have := (HC.out.sz x hx).1; omega, by rw [(HC.out.sz x hx).2]; unfold maxLen; exact Nat.le_trans (by decide : caT.size ≤ 2) (by omega)⟩) (by have := HKl.out; omega)).mono ?_; rintro e w2 ⟨t, rfl, k2, ht⟩; have HM : Hid _ := HM.out.calm k2; obtain rfl : t = true := (by cases t; exact absurd (HTw.out (by trivial)) (ht rfl); rfl); clear k2 ht) | (go_at_call 30; refine (awake15 _ (HF.out.keep HM.out.keep (fun h => h)) (HK.out.keep HM.out.keep (fun h => h))).mono ?_; rintro e w9 ⟨rfl, k9⟩; have HM : Hid _ := HM.out.calm k9; clear k9))
  all_goals
    go_ret
    exact ⟨rfl, Keep.below HM.out.keep (Nat.le_refl _) (fun _ h => h.elim)⟩
theorem rdB : Opn.Rd Tryz.prog 69 1 (fun x : Opn.Sl Int => [x.val]) (Opn.SlAt 1 (fun x : Int => [Value.int .u8 x]) (fun _ x => (Lit.int .u8 x).wf = true)) (fun x => (x.els.map fun _ => 1).sum + 1) :=
  Opn.rd_slice Tryz.underlying69 (by kernel_rfl) (by omega) (Opn.rd_int Tryz.underlying5 (by kernel_rfl))
set_option maxRecDepth 100000 in
theorem own : ownKnob Tryz.prog.godebug = none := by kernel_rfl
set_option maxRecDepth 100000 in
theorem laidOut : laidOutB Tryz.prog = true := by kernel_rfl
set_option maxRecDepth 100000 in
theorem contract (H : Type) (enc : TypeId × Value → H) (W : World) (base : Nat) (args : Array Value) (ds gs : List (DataW H)) (before : List MemPlace)
    (hval : ∀ (j : Nat) t v, Tryz.f7.params[j]? = some t → args[j]? = some v → Value.okWide Tryz.prog W .any base t v)
    (hW : DataW.Whole enc Tryz.prog Tryz.f7.params.toList Rows.ruleChainSpec.vars false W args.toList ds gs before) (hL : laidMetH Tryz.prog Rows.ruleChainRow.laid W) :
    Calls Tryz.prog 7 args W fun e W' => ∃ v, e = .returned v ∧ Rows.ruleChainSpec.post enc Tryz.prog Tryz.f7 false true false false W args v W' := by
  have hW' := hW
  have hTab := Lad.sha_of hL
  obtain ⟨p, q, hA0, hV, rfl, hfz, hnd⟩ := hW
  have hA : DataW.TrodAll enc Tryz.prog W 0 (fun _ => true) true Tryz.f7.params.toList args.toList ds p := hA0
  rw [Tryz.params7] at hA hval
  obtain ⟨rfl, rfl⟩ := trodVars_none hV
  obtain ⟨v0, vs0, d0, ds0, p0, q0, hargs, rfl, rfl, h0, r0⟩ := trodAll_cons hA
  obtain ⟨v1, vs1, d1, ds1, p1, q1, rfl, rfl, rfl, h1, r1⟩ := trodAll_cons r0
  obtain ⟨rfl, rfl, rfl⟩ := trodAll_nil r1
  obtain rfl : args = #[v0, v1] := by cases args; simp_all
  obtain ⟨s, rfl, hs, _⟩ := Opn.open_sl Tryz.underlying69 rdB (hval 0 _ v0 rfl rfl) h0
  obtain ⟨q, rfl, rfl, rfl, hq⟩ := open_int Tryz.underlying5 (hval 1 _ v1 rfl rfl) h1
  refine (walk s q (u8_wf hq) W hTab hs).mono fun e W' ⟨he, bel⟩ => ?_
  subst he
  exact ⟨_, rfl, Opn.law_post laidOut (by kernel_rfl) rfl Tryz.underlying4 rfl rfl hW' bel⟩
set_option maxRecDepth 100000 in
theorem lifted (os : Os) (started : os.Started) (H : Type) (enc : TypeId × Value → H) :
    ReturnsInHanded {} Tryz.checked os 7 .any (fun w args => (Rows.ruleChainSpec.pre enc Tryz.prog Tryz.f7 [] false w args ∧ laidMetH Tryz.prog Rows.ruleChainRow.laid w) ∧ sizedMet enc Tryz.prog Tryz.f7 (OpenSpec.ofChange Rows.ruleChainSpec) false w args)
      (Rows.ruleChainSpec.post enc Tryz.prog Tryz.f7 false true false false) := by
  refine returnsInHanded_of_change_and (C := Tryz.checked) (X := fun w _ => laidMetH Tryz.prog Rows.ruleChainRow.laid w) (fun _ _ _ hh h => h.of_heap hh) own started (by kernel_rfl) Tryz.func7
    (ChangeSpec.witness_shaped (enc := enc) (C := Tryz.checked) (os := os) (X := fun w _ => laidMetH Tryz.prog Rows.ruleChainRow.laid w) false (World.laidAll Tryz.prog os Rows.ruleChainRow.laid) #[.slice none 0 0, .int .u8 0] 8 (World.laidAll_os _ _ _)
      (World.shaped_of_ZipB (by kernel_rfl) (by kernel_rfl)) (by kernel_rfl) (by kernel_rfl) (by kernel_rfl)
      (by rw [MakeChecks.laidMetH_plain _ _ _ (by kernel_rfl)]; exact laidMet_laidAll _ (by kernel_rfl) (by kernel_rfl))) ?_
  intro W base args ds gs before hval0 hW _ _ hL _
  exact contract H enc W base args ds gs before hval0 hW hL
theorem over : Rows.ruleChainRow.holds Tryz.pinned (OpenSpec.ofChange Rows.ruleChainSpec) :=
  OpenClaim.holds_of_wide 7 Tryz.f7 rfl rfl rfl rfl rfl rfl rfl ⟨rfl, rfl, rfl, rfl, rfl⟩ rfl rfl rfl rfl rfl (by kernel_rfl) Tryz.func7 (by kernel_rfl)
    (of_decide_eq_true (by kernel_rfl)) (by unfold Func.isWrapper; first | (rw [if_pos (by decide +kernel)]; kernel_rfl) | (rw [if_neg (by decide +kernel)]; exact ⟨rfl, rfl⟩))
    (fun os started H enc _ => lifted os started H enc)
theorem proved : Rows.RuleChainCardSaid :=
  Claim7.holds_tied_plain_at .later [] [.data, .data] true _ false over (fun _ h => by cases h) (by kernel_rfl) (fun _ h => by cases h) ruleChain_row_tie rfl ⟨rfl, rfl⟩ (by kernel_rfl) rfl
    (fun f fn hf hfn => by
      obtain rfl : f = 7 := Option.some.inj ((show Tryz.prog.funcNamed "petrel/petrellaw15.RuleChain" = some 7 by kernel_rfl).symm.trans hf) |>.symm
      obtain rfl : fn = Tryz.f7 := (Option.some.inj (Tryz.func7.symm.trans hfn)).symm
      exact ⟨by kernel_rfl, fun j t ht => by
        rw [Tryz.params7] at ht
        have hm : t ∈ [69, 5] := by simpa using Array.mem_of_getElem? ht
        have hall : ([69, 5].all fun u => !Tryz.prog.wantsStandIn u) = true := by kernel_rfl
        exact (show Tryz.prog.wantsStandIn t = false by simpa using List.all_eq_true.1 hall t hm)⟩)
    (by kernel_rfl)
end RuleChain
end Go.Proofs.YtdpkklinpbmkfaaGreatDoor
