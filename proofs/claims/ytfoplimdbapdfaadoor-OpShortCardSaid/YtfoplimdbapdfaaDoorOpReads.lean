/-
  'petrellaw07.OpReads': any bytes are read as an operation as the document says. For every input.
-/
import Derived.Test.YtfoplimdbapdfaaDoorOxP
import Derived.Test.YtfoplimdbapdfaaDoorLad
import Derived.Test.YtfoplimdbapdfaaDoorTie
import Derived.Test.YtfoplimdbapdfaaDoorCards
import Derived.SevenTiedAt
import Derived.Stop.Joined
set_option linter.unusedVariables false
set_option linter.unusedSimpArgs false
namespace Go.Proofs.YtfoplimdbapdfaaDoor
open Go.RowKit
namespace OpReads
open Oct Ids Ox Go.ChangeShapes Go.WideShapes Go.ChangeAt
open Go.ChangeMaps (open_string shut_string)

theorem o_new {w : World} {K N : Int} {Y V : ByteArray} {r : List UInt8} {rv : Value} (w' : World) (hr : r.length = 32) (k : Keep (fun _ => False) (w.alloc (.cells (oc K N Y V r rv).toArray 27)) w') : w'.rangeAt w.heap.size 0 (oc K N Y V r rv) := ((OAt.new w hr).calm k).all
theorem sm_self (K N : Int) (Y V : ByteArray) (r : List UInt8) (l : List (List UInt8)) : sm K N Y V r l K N Y V r l = true := by simp [sm]
set_option maxRecDepth 100000 in
set_option maxHeartbeats 2000000 in
theorem walk (s : ByteArray) (w : World) (hT : TabP w) (hs : s.size ≤ maxLen) :
    Calls Tryd.prog 3 #[.string s] w fun e w' => e = .returned (.bool true) ∧ Below w.heap.size w w' := by
  have HT : Hid (TabP w) := hT
  by_cases hgo : s.size ≤ 2000
  · have hrl : (ofo s).r.length = 32 := ofo_r s
    obtain ⟨R, hR⟩ : ∃ R, ofo s = R := ⟨_, rfl⟩
    have Ho : Hid (∀ w, TabP w → Calls Tryd.prog 12 #[.string s] w (OfPost R w)) := fun w hT => hR ▸ of_any_op w hT s hs
    have Hx : Hid (∀ w, Calls Tryd.prog 13 #[.string s] w (OfPost R w)) := fun w => hR ▸ rof_any_op w s hs
    rw [hR] at hrl
    obtain ⟨f, K, N, Y, V, r, l⟩ := R
    simp only at hrl
    have Hr : Hid (r.length = 32) := hrl
    clear hR hrl hT hs
    go_enter Tryd.func3, Tryd.ntmps3
    go_wp2_with (first | (go_at_call 12; refine ((Ho.out _ HT.out).mono fun _ _ h => of_some h).mono ?_; rintro e w1 ⟨va, vc, rfl, h1, k1, _⟩; have A1 : Hid _ := ids_own h1; have K1 : Hid (Keep (fun _ => False) w (w1.alloc (.cells (oc K N Y V r (.slice va l.length vc)).toArray 27))) := k1.alloc _; clear h1 k1) | (go_at_call 13; refine ((Hx.out _).mono fun _ _ h => of_some h).mono ?_; rintro e w2 ⟨va2, vc2, rfl, h1, k1, _⟩; have A2 : Hid _ := ids_own h1; have K2 : Hid (Keep (fun _ => False) (w1.alloc (.cells (oc K N Y V r (.slice va l.length vc)).toArray 27)) (w2.alloc (.cells (oc K N Y V r (.slice va2 l.length vc2)).toArray 27))) := k1.alloc _; clear h1 k1) | (refine St.wl_alloc tyO rfl rfl (by (try simp only [World.size_alloc]); rfl) ?_; simp only [Act.put, List.setIfInBounds_toArray, List.set_cons_zero, List.set_cons_succ]) | (refine St.wl_storeN tyO rfl rfl rfl rfl rfl (by (try simp only [World.size_alloc])) (show _ = Value.agg (oc K N Y V r (.slice va l.length vc)).toArray from rfl) (oc_sz Hr.out) (oc_sz rfl) (oc_one _ _ _ _ _ _ _ _) ?_) | (refine St.wl_storeN tyO rfl rfl rfl rfl rfl (by (try simp only [World.size_alloc])) (show _ = Value.agg (oc K N Y V r (.slice va2 l.length vc2)).toArray from rfl) (oc_sz Hr.out) (oc_sz rfl) (oc_one _ _ _ _ _ _ _ _) ?_) | ((with_reducible refine at_load 27 ?_); first | (refine St.wl_load tyO (by rfl) rfl rfl (o_new _ Hr.out K2.out) (oc_len _ _ _ _ _ _ Hr.out) ?_; simp only [Act.put, List.setIfInBounds_toArray, List.set_cons_zero, List.set_cons_succ]) | (refine St.wl_load tyO (by rfl) rfl rfl (OAt.new w2 Hr.out).all (oc_len _ _ _ _ _ _ Hr.out) ?_; simp only [Act.put, List.setIfInBounds_toArray, List.set_cons_zero, List.set_cons_succ])) | (go_at_call 14; refine (rsame_o _ K N K N Y V Y V r r va va2 l.length vc l.length vc2 l l Hr.out Hr.out ((A1.out.calm ((Keep.refl _ _).alloc _)).calm K2.out) (A2.out.calm ((Keep.refl _ _).alloc _)) true (sm_self _ _ _ _ _ _)).mono ?_; rintro e w3 ⟨rfl, k1⟩; have K3 : Hid _ := k1; clear k1) | (go_at_call 11; refine (awake_true _ ((((HT.out.calm K1.out).calm K2.out)).calm K3.out)).mono ?_; rintro e w4 ⟨rfl, k1⟩; have K4 : Hid _ := k1; clear k1))
    go_ret
    exact ⟨rfl, Keep.below (((K1.out.trans K2.out).trans K3.out).trans K4.out) (Nat.le_refl _) (fun _ h => h.elim)⟩
  · have h : 2000 < s.size := by omega
    unfold maxLen at hs
    clear hgo hT
    go_enter Tryd.func3, Tryd.ntmps3
    go_wp2_with (first | (go_at_call 11; refine (awake_true _ HT.out).mono ?_; rintro e w5 ⟨rfl, k1⟩; have K5 : Hid _ := k1; clear k1))
    go_ret
    exact ⟨rfl, Keep.below K5.out (Nat.le_refl _) (fun _ h => h.elim)⟩

set_option maxRecDepth 100000 in
theorem own : ownKnob Tryd.prog.godebug = none := by kernel_rfl
set_option maxRecDepth 100000 in
theorem laidOut : laidOutB Tryd.prog = true := by kernel_rfl
set_option maxRecDepth 100000 in
theorem contract (H : Type) (enc : TypeId × Value → H) (W : World) (base : Nat) (args : Array Value) (ds gs : List (DataW H)) (before : List MemPlace)
    (hval : ∀ (j : Nat) t v, Tryd.f3.params[j]? = some t → args[j]? = some v → Value.okWide Tryd.prog W .any base t v)
    (hW : DataW.Whole enc Tryd.prog Tryd.f3.params.toList Rows.opReadsSpec.vars false W args.toList ds gs before) (hL : laidMetH Tryd.prog Rows.opReadsRow.laid W) :
    Calls Tryd.prog 3 args W fun e W' => ∃ v, e = .returned v ∧ Rows.opReadsSpec.post enc Tryd.prog Tryd.f3 false true false false W args v W' := by
  have hW' := hW
  have hTab := Lad.parts_of hL
  obtain ⟨p, q, hA0, hV, rfl, hfz, hnd⟩ := hW
  have hA : DataW.TrodAll enc Tryd.prog W 0 (fun _ => true) true Tryd.f3.params.toList args.toList ds p := hA0
  rw [Tryd.params3] at hA hval
  obtain ⟨rfl, rfl⟩ := trodVars_none hV
  obtain ⟨v0, vs0, d0, ds0, p0, q0, hargs, rfl, rfl, h0, r0⟩ := trodAll_cons hA
  obtain ⟨rfl, rfl, rfl⟩ := trodAll_nil r0
  obtain rfl : args = #[v0] := by cases args; simp_all
  obtain ⟨s, rfl, rfl, rfl, hs⟩ := open_string Tryd.underlying9 (hval 0 _ v0 rfl rfl) h0
  refine (walk s W hTab hs).mono fun e W' ⟨he, bel⟩ => ?_
  subst he
  exact ⟨_, rfl, Opn.law_post laidOut (by kernel_rfl) rfl Tryd.underlying4 rfl rfl hW' bel⟩
set_option maxRecDepth 100000 in
theorem lifted (os : Os) (started : os.Started) (H : Type) (enc : TypeId × Value → H) :
    ReturnsInHanded {} Tryd.checked os 3 .any (fun w args => (Rows.opReadsSpec.pre enc Tryd.prog Tryd.f3 [] false w args ∧ laidMetH Tryd.prog Rows.opReadsRow.laid w) ∧ sizedMet enc Tryd.prog Tryd.f3 (OpenSpec.ofChange Rows.opReadsSpec) false w args)
      (Rows.opReadsSpec.post enc Tryd.prog Tryd.f3 false true false false) := by
  refine returnsInHanded_of_change_and (C := Tryd.checked) (X := fun w _ => laidMetH Tryd.prog Rows.opReadsRow.laid w) (fun _ _ _ hh h => h.of_heap hh) own started (by kernel_rfl) Tryd.func3
    (ChangeSpec.witness_shaped (enc := enc) (C := Tryd.checked) (os := os) (X := fun w _ => laidMetH Tryd.prog Rows.opReadsRow.laid w) false (World.laidAll Tryd.prog os Rows.opReadsRow.laid) #[.string .empty] 8 (World.laidAll_os _ _ _)
      (World.shaped_of_ZipB (by kernel_rfl) (by kernel_rfl)) (by kernel_rfl) (by kernel_rfl) (by kernel_rfl)
      (by rw [MakeChecks.laidMetH_plain _ _ _ (by kernel_rfl)]; exact laidMet_laidAll _ (by kernel_rfl) (by kernel_rfl))) ?_
  intro W base args ds gs before hval0 hW _ _ hL _
  exact contract H enc W base args ds gs before hval0 hW hL
theorem over : Rows.opReadsRow.holds Tryd.pinned (OpenSpec.ofChange Rows.opReadsSpec) :=
  OpenClaim.holds_of_wide 3 Tryd.f3 rfl rfl rfl rfl rfl rfl rfl ⟨rfl, rfl, rfl, rfl, rfl⟩ rfl rfl rfl rfl rfl (by kernel_rfl) Tryd.func3 (by kernel_rfl)
    (of_decide_eq_true (by kernel_rfl)) (by unfold Func.isWrapper; first | (rw [if_pos (by decide +kernel)]; kernel_rfl) | (rw [if_neg (by decide +kernel)]; exact ⟨rfl, rfl⟩))
    (fun os started H enc _ => lifted os started H enc)
theorem proved : Rows.OpReadsCardSaid :=
  Claim7.holds_tied_plain_at .later [] [.data] true _ false over (fun _ h => by cases h) (by kernel_rfl) (fun _ h => by cases h) opReads_row_tie rfl ⟨rfl, rfl⟩ (by kernel_rfl) rfl
    (fun f fn hf hfn => by
      obtain rfl : f = 3 := Option.some.inj ((show Tryd.prog.funcNamed "petrel/petrellaw07.OpReads" = some 3 by kernel_rfl).symm.trans hf) |>.symm
      obtain rfl : fn = Tryd.f3 := (Option.some.inj (Tryd.func3.symm.trans hfn)).symm
      exact ⟨by kernel_rfl, fun j t ht => by
        rw [Tryd.params3] at ht
        have hm : t ∈ [9] := by simpa using Array.mem_of_getElem? ht
        have hall : ([9].all fun u => !Tryd.prog.wantsStandIn u) = true := by kernel_rfl
        exact (show Tryd.prog.wantsStandIn t = false by simpa using List.all_eq_true.1 hall t hm)⟩)
    (by kernel_rfl)
end OpReads
end Go.Proofs.YtfoplimdbapdfaaDoor
