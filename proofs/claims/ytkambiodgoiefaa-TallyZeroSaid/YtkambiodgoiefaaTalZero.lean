/-
  'petrellaw21.TallyZero': a Tally that nobody made counts nothing. For every input.
-/
import Derived.Test.YtkambiodgoiefaaTal5
import Derived.Test.YtkambiodgoiefaaOpnS
namespace Go.Proofs.Ytkambiodgoiefaa
open Go.RowKit
namespace TalZero
open Oct Tal Go.ChangeShapes Go.WideShapes Go.ChangeAt
open Go.ChangeMaps (open_string shut_string)

theorem walk (n : Int) (w : World) : Calls Try.prog 6 #[.int .i64 n] w fun e w' => e = .returned (.bool true) ∧ Below w.heap.size w w' := by
  go_enter Try.func6, Try.ntmps6
  go_wp2_with (first | (go_at_call 8; refine (inc_none _ _ _ (by first | with_reducible exact tn_nil _ | with_reducible exact tn_zero _ _ (by rw [cell_of (heap_alloc_new _ _)]; rfl) | with_reducible exact tn_zero _ _ (by go_simp))).mono ?_; rintro e w' ⟨rfl, rfl⟩) | (go_at_call 10; refine (n_none _ _ (by first | with_reducible exact tn_nil _ | with_reducible exact tn_zero _ _ (by rw [cell_of (heap_alloc_new _ _)]; rfl) | with_reducible exact tn_zero _ _ (by go_simp))).mono ?_; rintro e w' ⟨rfl, rfl⟩) | (go_at_call 11; refine (put_none _ _ (by first | with_reducible exact tn_nil _ | with_reducible exact tn_zero _ _ (by rw [cell_of (heap_alloc_new _ _)]; rfl) | with_reducible exact tn_zero _ _ (by go_simp))).mono ?_; rintro e w' ⟨rfl, rfl⟩) | (go_at_call 14; refine (awake_true _).mono ?_; rintro e w2 ⟨rfl, k2⟩; have K2 : Hid _ := k2; clear k2))
  go_ret
  exact ⟨rfl, Keep.below (S := fun _ => False) (((Keep.refl _ _).alloc _).trans K2.out) (Nat.le_refl _) (fun _ h => h.elim)⟩

theorem own : ownKnob Try.prog.godebug = none := by kernel_rfl
theorem laidOut : laidOutB Try.prog = true := by kernel_rfl
theorem contract (H : Type) (enc : TypeId × Value → H) (W : World) (base : Nat) (args : Array Value) (ds gs : List (DataW H)) (before : List MemPlace)
    (hval : ∀ (j : Nat) t v, Try.f6.params[j]? = some t → args[j]? = some v → Value.okWide Try.prog W .any base t v)
    (hW : DataW.Whole enc Try.prog Try.f6.params.toList Rows.tallyZeroSpec.vars false W args.toList ds gs before) :
    Calls Try.prog 6 args W fun e W' => ∃ v, e = .returned v ∧ Rows.tallyZeroSpec.post enc Try.prog Try.f6 false true false false W args v W' := by
  have hW' := hW
  obtain ⟨p, q, hA0, hV, rfl, hfz, hnd⟩ := hW
  have hA : DataW.TrodAll enc Try.prog W 0 (fun _ => true) true Try.f6.params.toList args.toList ds p := hA0
  rw [Try.params6] at hA hval
  obtain ⟨rfl, rfl⟩ := trodVars_none hV
  obtain ⟨v0, vs0, d0, ds0, p0, q0, hargs, rfl, rfl, h0, r0⟩ := trodAll_cons hA
  obtain ⟨rfl, rfl, rfl⟩ := trodAll_nil r0
  obtain rfl : args = #[v0] := by cases args; simp_all
  obtain ⟨n, rfl, rfl, rfl, _⟩ := open_int Try.underlying3 (hval 0 _ v0 rfl rfl) h0
  refine (walk n W).mono fun e W' ⟨he, bel⟩ => ?_
  subst he
  exact ⟨_, rfl, Opn.law_post laidOut (by kernel_rfl) rfl Try.underlying4 rfl rfl hW' bel⟩
set_option maxRecDepth 100000 in
theorem lifted (os : Os) (started : os.Started) (H : Type) (enc : TypeId × Value → H) :
    ReturnsInHanded {} Try.checked os 6 .any (Rows.tallyZeroSpec.pre6 enc Try.prog Try.f6 Rows.tallyZeroRow.domain false) (Rows.tallyZeroSpec.post enc Try.prog Try.f6 false true false false) := by
  refine returnsInHanded_of_change (C := Try.checked) own started (by kernel_rfl) Try.func6
    (ChangeSpec.witness6 (enc := enc) (C := Try.checked) false ⟨#[], #[.int .i64 0], []⟩ 8 (by kernel_rfl) (by kernel_rfl) (by kernel_rfl) (by kernel_rfl)) ?_
  intro W base args ds gs before hval0 hW hcnd _
  exact contract H enc W base args ds gs before hval0 hW
theorem over : Rows.tallyZeroRow.holds Try.pinned (OpenSpec.ofChange Rows.tallyZeroSpec) :=
  OpenClaim.holds_of_wide 6 Try.f6 rfl rfl rfl rfl rfl rfl rfl ⟨rfl, rfl, rfl, rfl, rfl⟩ rfl rfl rfl rfl rfl (by kernel_rfl) Try.func6 (by kernel_rfl)
    (of_decide_eq_true (by kernel_rfl)) (by unfold Func.isWrapper; first | (rw [if_pos (by decide +kernel)]; kernel_rfl) | (rw [if_neg (by decide +kernel)]; exact ⟨rfl, rfl⟩))
    (fun os started H enc _ => lifted os started H enc)
theorem proved : Rows.TallyZeroSaid := over
end TalZero
end Go.Proofs.Ytkambiodgoiefaa
