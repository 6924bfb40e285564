/-
  'petrellaw08.HeaderReads': any bytes are read as a header as the document says. For every input.
-/
import Derived.Test.YthdjbpimjbkajaaDoorHdF
import Derived.Test.YthdjbpimjbkajaaDoorHdE
import Derived.Test.YthdjbpimjbkajaaDoorHdL
import Derived.Test.YthdjbpimjbkajaaDoorLad2
import Derived.Test.YthdjbpimjbkajaaDoorTie
import Derived.Test.YthdjbpimjbkajaaDoorCards
import Derived.SevenTiedAt
import Derived.Stop.Joined
set_option linter.unusedVariables false
set_option linter.unusedSimpArgs false
namespace Go.Proofs.YthdjbpimjbkajaaDoor
open Go.RowKit
namespace HeaderReads
open Oct Ids Gn Hd Go.ChangeShapes Go.WideShapes Go.ChangeAt
open Go.ChangeMaps (open_string shut_string)
open Mem (M blk)

theorem of_some {w w' : World} {e : Ending} {R : HO} (h : OfPost R w e w') : ∃ va vc, e = .returned (.tuple #[.agg (hd (.slice va R.l.length vc) R.G R.T R.A R.Q R.Z R.m).toArray, .int .i64 R.e]) ∧ At w' va R.l.length R.l ∧ Keep (fun _ => False) w w' := by
  obtain ⟨v, h1, h2, h3, h4⟩ := h
  obtain ⟨va, vc, rfl, hat, _⟩ := h2.at
  exact ⟨va, vc, h1, hat, h3⟩
theorem h_new {w : World} {pv : Value} {G : Int} {T : ByteArray} {A Q Z : Int} {m : List UInt8} (w' : World) (hm : m.length = 32) (k : Keep (fun _ => False) (w.alloc (.cells (hd pv G T A Q Z m).toArray 29)) w') : w'.rangeAt w.heap.size 0 (hd pv G T A Q Z m) := ((HAt.new w hm).calm k).all
set_option maxRecDepth 100000 in
set_option maxHeartbeats 4000000 in
theorem walk (s : ByteArray) (w : World) (hT : Sha.TabF w ∧ Sha.TabK w) (hs : s.size ≤ maxLen) :
    Calls Tryd.prog 5 #[.string s] w fun e w' => e = .returned (.bool true) ∧ Below w.heap.size w w' := by
  have HF : Hid (Sha.TabF w) := hT.1
  have HK : Hid (Sha.TabK w) := hT.2
  by_cases hgo : s.size ≤ 2000
  · have hrl : (ofh s).m.length = 32 := ofh_m s
    obtain ⟨R, hR⟩ : ∃ R, ofh s = R := ⟨_, rfl⟩
    have Ho : Hid (∀ w, Calls Tryd.prog 20 #[.string s] w (OfPost R w)) := fun w => hR ▸ of_any_h w s hs
    have Hx : Hid (∀ w, Calls Tryd.prog 21 #[.string s] w (OfPost R w)) := fun w => hR ▸ rof_any_h w s hs
    rw [hR] at hrl
    obtain ⟨f, l, G, T, A, Q, Z, m⟩ := R
    simp only at hrl
    have Hr : Hid (m.length = 32) := hrl
    clear hR hrl hT hs
    go_enter Tryd.func5, Tryd.ntmps5
    go_wp2_with (first | (go_at_call 20; refine ((Ho.out _).mono fun _ _ h => of_some h).mono ?_; rintro e w1 ⟨va, vc, rfl, h1, k1⟩; have A1 : Hid _ := h1; have K1 : Hid (Keep (fun _ => False) w (w1.alloc (.cells (hd (.slice va l.length vc) G T A Q Z m).toArray 29))) := k1.alloc _; clear h1 k1) | (go_at_call 21; refine ((Hx.out _).mono fun _ _ h => of_some h).mono ?_; rintro e w2 ⟨va2, vc2, rfl, h1, k1⟩; have A2 : Hid _ := h1; have K2 : Hid (Keep (fun _ => False) (w1.alloc (.cells (hd (.slice va l.length vc) G T A Q Z m).toArray 29)) (w2.alloc (.cells (hd (.slice va2 l.length vc2) G T A Q Z m).toArray 29))) := k1.alloc _; clear h1 k1) | (refine St.wl_alloc tyH rfl rfl (by (try simp only [World.size_alloc]); rfl) ?_; simp only [Act.put, List.setIfInBounds_toArray, List.set_cons_zero, List.set_cons_succ]) | (refine St.wl_storeN tyH rfl rfl rfl rfl rfl (by (try simp only [World.size_alloc])) (show _ = Value.agg (hd (.slice va l.length vc) G T A Q Z m).toArray from rfl) (hd_sz Hr.out) (hd_sz rfl) (hd_one _ _ _ _ _ _ _ _ _) ?_) | (refine St.wl_storeN tyH rfl rfl rfl rfl rfl (by (try simp only [World.size_alloc])) (show _ = Value.agg (hd (.slice va2 l.length vc2) G T A Q Z m).toArray from rfl) (hd_sz Hr.out) (hd_sz rfl) (hd_one _ _ _ _ _ _ _ _ _) ?_) | ((with_reducible refine at_load 29 ?_); first | (refine St.wl_load tyH (by rfl) rfl rfl (h_new _ Hr.out K2.out) (hd_len _ _ _ _ _ _ _ Hr.out) ?_; simp only [Act.put, List.setIfInBounds_toArray, List.set_cons_zero, List.set_cons_succ]) | (refine St.wl_load tyH (by rfl) rfl rfl (HAt.new w2 Hr.out).all (hd_len _ _ _ _ _ _ _ Hr.out) ?_; simp only [Act.put, List.setIfInBounds_toArray, List.set_cons_zero, List.set_cons_succ])) | (go_at_call 19; refine (rsame_h _ va va2 l.length vc l.length vc2 l l G G T T A A Q Q Z Z m m Hr.out Hr.out ((A1.out.calm ((Keep.refl _ _).alloc _)).calm K2.out) (A2.out.calm ((Keep.refl _ _).alloc _)) true (smh_self _ _ _ _ _ _ _)).mono ?_; rintro e w3 ⟨rfl, k1⟩; have K3 : Hid _ := k1; clear k1) | (go_at_call 11; refine (awake_any _ (HF.out.keep ((K1.out.trans K2.out).trans K3.out) (fun h => h)) (HK.out.keep ((K1.out.trans K2.out).trans K3.out) (fun h => h))).mono ?_; rintro e w4 ⟨rfl, k1⟩; have K4 : Hid _ := k1; clear k1))
    go_ret
    exact ⟨rfl, Keep.below (((K1.out.trans K2.out).trans K3.out).trans K4.out) (Nat.le_refl _) (fun _ h => h.elim)⟩
  · have h : 2000 < s.size := by omega
    unfold maxLen at hs
    have Hc : Hid (∀ w, Calls Tryd.prog 16 #[.agg hz0] w fun e w' => e = .returned (.int .i64 12) ∧ Keep (fun _ => False) w w') := fun w => check_any w none 0 0 [] 0 ByteArray.empty 0 0 0 Z32 (nil_at w) rfl (Nat.zero_le _) (Nat.zero_le _) 12 (by decide +kernel)
    clear hgo hT
    go_enter Tryd.func5, Tryd.ntmps5
    go_wp2_with (first | (refine St.wl_buildV (T := 29) rfl rfl (cs := hz0) (by kernel_rfl) ?_; simp only [Act.put, List.setIfInBounds_toArray, List.set_cons_zero, List.set_cons_succ]) | (go_at_call 16; refine (Hc.out _).mono ?_; rintro e w5 ⟨rfl, k1⟩; have K5 : Hid _ := k1; clear k1) | (go_at_call 11; refine (awake_any _ (HF.out.keep K5.out (fun h => h)) (HK.out.keep K5.out (fun h => h))).mono ?_; rintro e w6 ⟨rfl, k1⟩; have K6 : Hid _ := k1; clear k1))
    go_ret
    exact ⟨rfl, Keep.below (K5.out.trans K6.out) (Nat.le_refl _) (fun _ h => h.elim)⟩

set_option maxRecDepth 100000 in
theorem own : ownKnob Tryd.prog.godebug = none := by kernel_rfl
set_option maxRecDepth 100000 in
theorem laidOut : laidOutB Tryd.prog = true := by kernel_rfl
set_option maxRecDepth 100000 in
theorem contract (H : Type) (enc : TypeId × Value → H) (W : World) (base : Nat) (args : Array Value) (ds gs : List (DataW H)) (before : List MemPlace)
    (hval : ∀ (j : Nat) t v, Tryd.f5.params[j]? = some t → args[j]? = some v → Value.okWide Tryd.prog W .any base t v)
    (hW : DataW.Whole enc Tryd.prog Tryd.f5.params.toList Rows.headerReadsSpec.vars false W args.toList ds gs before) (hL : laidMetH Tryd.prog Rows.headerReadsRow.laid W) :
    Calls Tryd.prog 5 args W fun e W' => ∃ v, e = .returned v ∧ Rows.headerReadsSpec.post enc Tryd.prog Tryd.f5 false true false false W args v W' := by
  have hW' := hW
  have hTab := Lad.sha_of hL
  obtain ⟨p, q, hA0, hV, rfl, hfz, hnd⟩ := hW
  have hA : DataW.TrodAll enc Tryd.prog W 0 (fun _ => true) true Tryd.f5.params.toList args.toList ds p := hA0
  rw [Tryd.params5] at hA hval
  obtain ⟨rfl, rfl⟩ := trodVars_none hV
  obtain ⟨v0, vs0, d0, ds0, p0, q0, hargs, rfl, rfl, h0, r0⟩ := trodAll_cons hA
  obtain ⟨rfl, rfl, rfl⟩ := trodAll_nil r0
  obtain rfl : args = #[v0] := by cases args; simp_all
  obtain ⟨s, rfl, rfl, rfl, hs⟩ := open_string Tryd.underlying9 (hval 0 _ v0 rfl rfl) h0
  refine (walk s W hTab hs).mono fun e W' ⟨he, bel⟩ => ?_
  subst he
  exact ⟨_, rfl, Opn.law_post laidOut (by kernel_rfl) rfl Tryd.underlying4 rfl rfl hW' bel⟩
set_option maxRecDepth 100000 in
theorem lifted (os : Os) (started : os.Started) (H : Type) (enc : TypeId × Value → H) :
    ReturnsInHanded {} Tryd.checked os 5 .any (fun w args => (Rows.headerReadsSpec.pre enc Tryd.prog Tryd.f5 [] false w args ∧ laidMetH Tryd.prog Rows.headerReadsRow.laid w) ∧ sizedMet enc Tryd.prog Tryd.f5 (OpenSpec.ofChange Rows.headerReadsSpec) false w args)
      (Rows.headerReadsSpec.post enc Tryd.prog Tryd.f5 false true false false) := by
  refine returnsInHanded_of_change_and (C := Tryd.checked) (X := fun w _ => laidMetH Tryd.prog Rows.headerReadsRow.laid w) (fun _ _ _ hh h => h.of_heap hh) own started (by kernel_rfl) Tryd.func5
    (ChangeSpec.witness_shaped (enc := enc) (C := Tryd.checked) (os := os) (X := fun w _ => laidMetH Tryd.prog Rows.headerReadsRow.laid w) false (World.laidAll Tryd.prog os Rows.headerReadsRow.laid) #[.string .empty] 8 (World.laidAll_os _ _ _)
      (World.shaped_of_ZipB (by kernel_rfl) (by kernel_rfl)) (by kernel_rfl) (by kernel_rfl) (by kernel_rfl)
      (by rw [MakeChecks.laidMetH_plain _ _ _ (by kernel_rfl)]; exact laidMet_laidAll _ (by kernel_rfl) (by kernel_rfl))) ?_
  intro W base args ds gs before hval0 hW _ _ hL _
  exact contract H enc W base args ds gs before hval0 hW hL
theorem over : Rows.headerReadsRow.holds Tryd.pinned (OpenSpec.ofChange Rows.headerReadsSpec) :=
  OpenClaim.holds_of_wide 5 Tryd.f5 rfl rfl rfl rfl rfl rfl rfl ⟨rfl, rfl, rfl, rfl, rfl⟩ rfl rfl rfl rfl rfl (by kernel_rfl) Tryd.func5 (by kernel_rfl)
    (of_decide_eq_true (by kernel_rfl)) (by unfold Func.isWrapper; first | (rw [if_pos (by decide +kernel)]; kernel_rfl) | (rw [if_neg (by decide +kernel)]; exact ⟨rfl, rfl⟩))
    (fun os started H enc _ => lifted os started H enc)
theorem proved : Rows.HeaderReadsCardSaid :=
  Claim7.holds_tied_plain_at .later [] [.data, .data] true _ false over (fun _ h => by cases h) (by kernel_rfl) (fun _ h => by cases h) headerReads_row_tie rfl ⟨rfl, rfl⟩ (by kernel_rfl) rfl
    (fun f fn hf hfn => by
      obtain rfl : f = 5 := Option.some.inj ((show Tryd.prog.funcNamed "petrel/petrellaw08.HeaderReads" = some 5 by kernel_rfl).symm.trans hf) |>.symm
      obtain rfl : fn = Tryd.f5 := (Option.some.inj (Tryd.func5.symm.trans hfn)).symm
      exact ⟨by kernel_rfl, fun j t ht => by
        rw [Tryd.params5] at ht
        have hm : t ∈ [9] := by simpa using Array.mem_of_getElem? ht
        have hall : ([9].all fun u => !Tryd.prog.wantsStandIn u) = true := by kernel_rfl
        exact (show Tryd.prog.wantsStandIn t = false by simpa using List.all_eq_true.1 hall t hm)⟩)
    (by kernel_rfl)
end HeaderReads
end Go.Proofs.YthdjbpimjbkajaaDoor
