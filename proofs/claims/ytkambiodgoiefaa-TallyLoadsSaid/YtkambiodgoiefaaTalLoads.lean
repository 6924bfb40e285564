/-
  'petrellaw21.TallyLoads': any bytes are loaded as the document says, and what is loaded puts the same bytes. For every input.
-/
import Derived.Test.YtkambiodgoiefaaTal5
import Derived.Test.YtkambiodgoiefaaOpnS
import Derived.Lib.Strings
namespace Go.Proofs.Ytkambiodgoiefaa
open Go.RowKit
namespace TalLoads
open Oct Tal Go.ChangeShapes Go.WideShapes Go.ChangeAt
open Go.ChangeMaps (open_string shut_string)

theorem walk (s : ByteArray) (hs : s.size ≤ maxLen) (w : World) : Calls Try.prog 4 #[.string s] w fun e w' => e = .returned (.bool true) ∧ Below w.heap.size w w' := by
  by_cases h8 : s.size = 8
  · have hf : Hid _ := four_pt s h8
    have hl : Hid (∀ w, _) := fun w => load_ok w s hs h8
    have hr : Hid (∀ w, _) := fun w => rload_ok w s hs h8
    generalize wrap64 ((four s 0 * 4294967296 + four s 4 : Nat) : Int) = V at hf hl hr
    go_enter Try.func4, Try.ntmps4
    go_wp2_with (first | (go_at_call 13; refine (hl.out _).mono ?_; rintro e w1 ⟨b1, l1, rfl, g1, k1⟩; have G1 : Hid _ := g1; have K1 : Hid _ := k1; clear g1 k1) | (go_at_call 15; refine (hr.out _).mono ?_; rintro e w2 ⟨rfl, k1⟩; have K2 : Hid _ := k1; clear k1) | (go_at_call 10; refine (n_t _ _ V (G1.out.keep K2.out (fun h => h))).mono ?_; rintro e w3 ⟨rfl, rfl⟩) | (go_at_call 11; refine (put_n _ _ V (G1.out.keep K2.out (fun h => h))).mono ?_; rw [hf.out]; rintro e w4 ⟨rfl, k1⟩; have K4 : Hid _ := k1; clear k1) | (go_at_call 14; refine (awake_true _).mono ?_; rintro e w5 ⟨rfl, k1⟩; have K5 : Hid _ := k1; clear k1))
    go_ret
    exact ⟨rfl, Keep.below (((K1.out.trans K2.out).trans K4.out).trans K5.out) (Nat.le_refl _) (fun _ h => h.elim)⟩
  · have hl : Hid (∀ w, _) := fun w => load_bad w s hs h8
    have hr : Hid (∀ w, _) := fun w => rload_bad w s hs h8
    have hv0 : (ev s != 0) = true := by unfold ev; split <;> rfl
    generalize ev s = v at hl hr hv0
    go_enter Try.func4, Try.ntmps4
    go_wp2_with (first | (go_at_call 13; refine (hl.out _).mono ?_; rintro e w1 ⟨rfl, k1⟩; have K1 : Hid _ := k1; clear k1) | (go_at_call 15; refine (hr.out _).mono ?_; rintro e w2 ⟨rfl, k1⟩; have K2 : Hid _ := k1; clear k1) | (go_at_call 10; refine (n_none _ _ (tn_nil _)).mono ?_; rintro e w3 ⟨rfl, rfl⟩) | (go_at_call 14; refine (awake_true _).mono ?_; rintro e w5 ⟨rfl, k1⟩; have K5 : Hid _ := k1; clear k1))
    go_ret
    exact ⟨rfl, Keep.below ((K1.out.trans K2.out).trans K5.out) (Nat.le_refl _) (fun _ h => h.elim)⟩

theorem own : ownKnob Try.prog.godebug = none := by kernel_rfl
theorem laidOut : laidOutB Try.prog = true := by kernel_rfl
theorem contract (H : Type) (enc : TypeId × Value → H) (W : World) (base : Nat) (args : Array Value) (ds gs : List (DataW H)) (before : List MemPlace)
    (hval : ∀ (j : Nat) t v, Try.f4.params[j]? = some t → args[j]? = some v → Value.okWide Try.prog W .any base t v)
    (hW : DataW.Whole enc Try.prog Try.f4.params.toList Rows.tallyLoadsSpec.vars false W args.toList ds gs before) :
    Calls Try.prog 4 args W fun e W' => ∃ v, e = .returned v ∧ Rows.tallyLoadsSpec.post enc Try.prog Try.f4 false true false false W args v W' := by
  have hW' := hW
  obtain ⟨p, q, hA0, hV, rfl, hfz, hnd⟩ := hW
  have hA : DataW.TrodAll enc Try.prog W 0 (fun _ => true) true Try.f4.params.toList args.toList ds p := hA0
  rw [Try.params4] at hA hval
  obtain ⟨rfl, rfl⟩ := trodVars_none hV
  obtain ⟨v0, vs0, d0, ds0, p0, q0, hargs, rfl, rfl, h0, r0⟩ := trodAll_cons hA
  obtain ⟨rfl, rfl, rfl⟩ := trodAll_nil r0
  obtain rfl : args = #[v0] := by cases args; simp_all
  obtain ⟨s, rfl, rfl, rfl, hs⟩ := open_string Try.underlying9 (hval 0 _ v0 rfl rfl) h0
  refine (walk s hs W).mono fun e W' ⟨he, bel⟩ => ?_
  subst he
  exact ⟨_, rfl, Opn.law_post laidOut (by kernel_rfl) rfl Try.underlying4 rfl rfl hW' bel⟩
set_option maxRecDepth 100000 in
theorem lifted (os : Os) (started : os.Started) (H : Type) (enc : TypeId × Value → H) :
    ReturnsInHanded {} Try.checked os 4 .any (Rows.tallyLoadsSpec.pre6 enc Try.prog Try.f4 Rows.tallyLoadsRow.domain false) (Rows.tallyLoadsSpec.post enc Try.prog Try.f4 false true false false) := by
  refine returnsInHanded_of_change (C := Try.checked) own started (by kernel_rfl) Try.func4
    (ChangeSpec.witness6 (enc := enc) (C := Try.checked) false ⟨#[], #[.string .empty], []⟩ 8 (by kernel_rfl) (by kernel_rfl) (by kernel_rfl) (by kernel_rfl)) ?_
  intro W base args ds gs before hval0 hW hcnd _
  exact contract H enc W base args ds gs before hval0 hW
theorem over : Rows.tallyLoadsRow.holds Try.pinned (OpenSpec.ofChange Rows.tallyLoadsSpec) :=
  OpenClaim.holds_of_wide 4 Try.f4 rfl rfl rfl rfl rfl rfl rfl ⟨rfl, rfl, rfl, rfl, rfl⟩ rfl rfl rfl rfl rfl (by kernel_rfl) Try.func4 (by kernel_rfl)
    (of_decide_eq_true (by kernel_rfl)) (by unfold Func.isWrapper; first | (rw [if_pos (by decide +kernel)]; kernel_rfl) | (rw [if_neg (by decide +kernel)]; exact ⟨rfl, rfl⟩))
    (fun os started H enc _ => lifted os started H enc)
theorem proved : Rows.TallyLoadsSaid := over
end TalLoads
end Go.Proofs.Ytkambiodgoiefaa
