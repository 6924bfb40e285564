/-
  'petrellaw01.OctetZero': a writer and a reader that nobody made write and read nothing. For every input.
-/
import Derived.Test.YtbeiaobdapapjaaAwake1
import Derived.Test.YtbeiaobdapapjaaOpen
namespace Go.Proofs.Ytbeiaobdapapjaa
open Go.RowKit
namespace OctZero
open Oct Go.ChangeShapes Go.WideShapes Go.ChangeAt
open Go.ChangeMaps (open_string shut_string)

def RNone (p : Value) (w : World) : Prop := Calls Try.prog 31 #[p] w fun e w' => e = .returned (.bool true) ∧ w = w'
theorem rn_nil (w : World) : RNone (.pointer none) w := rnone_nil w
theorem rn_zero (w : World) (b : Nat) (h : w.cell? ⟨b, 3, none⟩ = some (.bool false)) : RNone (.pointer (some ⟨b, 0, none⟩)) w := rnone w b false h
theorem stuck_none (w : World) (p : Value) (h : RNone p w) : Calls Try.prog 30 #[p] w fun e w' => e = .returned (.bool true) ∧ w = w' := by
  go_enter Try.func30, Try.ntmps30
  go_wp2_with (first | (go_at_call 31; refine Calls.mono h ?_; rintro e w' ⟨rfl, rfl⟩))
  go_ret
  exact ⟨rfl, rfl⟩
theorem raw_none (w : World) (p : Value) (n : Int) (h : RNone p w) : Calls Try.prog 21 #[p, .int .i64 n] w fun e w' => e = .returned (.string ByteArray.empty) ∧ w = w' := by
  go_enter Try.func21, Try.ntmps21
  go_wp2_with (first | (go_at_call 30; refine (stuck_none _ _ h).mono ?_; rintro e w' ⟨rfl, rfl⟩))
  go_ret
  exact ⟨rfl, rfl⟩
theorem num_none (w : World) (p : Value) (n : Int) (h : RNone p w) : Calls Try.prog 17 #[p, .int .i64 n] w fun e w' => e = .returned (.int .i64 0) ∧ w = w' := by
  go_enter Try.func17, Try.ntmps17
  go_wp2_with (first | (go_at_call 30; refine (stuck_none _ _ h).mono ?_; rintro e w' ⟨rfl, rfl⟩))
  go_ret
  exact ⟨rfl, rfl⟩
theorem text_none (w : World) (p : Value) (n : Int) (h : RNone p w) : Calls Try.prog 19 #[p, .int .i64 n] w fun e w' => e = .returned (.string ByteArray.empty) ∧ w = w' := by
  go_enter Try.func19, Try.ntmps19
  go_wp2_with (first | (go_at_call 17; refine (num_none _ _ _ h).mono ?_; rintro e w' ⟨rfl, rfl⟩) | (go_at_call 30; refine (stuck_none _ _ h).mono ?_; rintro e w' ⟨rfl, rfl⟩))
  go_ret
  exact ⟨rfl, rfl⟩
theorem left_none (w : World) (p : Value) (h : RNone p w) : Calls Try.prog 23 #[p] w fun e w' => e = .returned (.int .i64 0) ∧ w = w' := by
  go_enter Try.func23, Try.ntmps23
  go_wp2_with (first | (go_at_call 30; refine (stuck_none _ _ h).mono ?_; rintro e w' ⟨rfl, rfl⟩))
  go_ret
  exact ⟨rfl, rfl⟩
theorem err_none (w : World) (p : Value) (h : RNone p w) : Calls Try.prog 24 #[p] w fun e w' => e = .returned (.int .i64 8) ∧ w = w' := by
  go_enter Try.func24, Try.ntmps24
  go_wp2_with (first | (go_at_call 31; refine Calls.mono h ?_; rintro e w' ⟨rfl, rfl⟩))
  go_ret
  exact ⟨rfl, rfl⟩
theorem end_none (w : World) (p : Value) (h : RNone p w) : Calls Try.prog 25 #[p] w fun e w' => e = .returned (.int .i64 8) ∧ Keep (fun _ => False) w w' := by
  go_enter Try.func25, Try.ntmps25
  go_wp2_with (first | (go_at_call 24; refine (err_none _ _ h).mono ?_; rintro e w' ⟨rfl, rfl⟩))
  refine Txt.wp_region_text (fun _ => True) [0, 0, 0, 0, 0, 0, 1, 0, 0, 0, 1, 0, 0, 0] (by kernel_rfl) (by kernel_rfl) trivial ?_
  repeat (first
    | (refine Txt.tl_pure (v := ?_) (by rfl) ?_ ?_; rotate_left; (focus (intro _; go_simp; try with_reducible rfl)); simp only [Act.put, List.setIfInBounds_toArray, List.set_cons_zero, List.set_cons_succ])
    | (refine Txt.tl_skip (by rfl) trivial ?_; simp only [Act.put, List.setIfInBounds_toArray, List.set_cons_zero, List.set_cons_succ])
    | (refine Txt.tl_load (v := ?_) (by rfl) (by rfl) (by rfl) (by kernel_rfl) ?_ ?_; rotate_left; (focus (first | assumption | (go_simp; done) | (go_simp; with_reducible rfl))); simp only [Act.put, List.setIfInBounds_toArray, List.set_cons_zero, List.set_cons_succ])
    | (refine Txt.tl_alloc (by rfl) ?_; go_simp; refine ⟨by (first | exact Txt.Le.alloc_drew _ _ | exact Txt.Le.alloc _ _), ?_⟩))
  refine Txt.tl_nil ?_
  go_wp2
  go_ret
  exact ⟨rfl, (Keep.refl _ _).drew⟩

theorem walk (n : Int) (s : ByteArray) (w : World) : Calls Try.prog 7 #[.int .i64 n, .string s] w fun e w' => e = .returned (.bool true) ∧ Below w.heap.size w w' := by
  go_enter Try.func7, Try.ntmps7
  go_wp2_with (first | (go_at_call 10; refine (Oct.num_none _ _ _ _ (by first | with_reducible exact none_nil _ | with_reducible exact none_zero _ _ (by rw [cell_of (heap_alloc_new _ _)]; rfl) | with_reducible exact none_zero _ _ (by go_simp))).mono ?_; rintro e w' ⟨rfl, rfl⟩) | (go_at_call 12; refine (Oct.text_none _ _ _ (by first | with_reducible exact none_nil _ | with_reducible exact none_zero _ _ (by rw [cell_of (heap_alloc_new _ _)]; rfl) | with_reducible exact none_zero _ _ (by go_simp))).mono ?_; rintro e w' ⟨rfl, rfl⟩) | (go_at_call 13; refine (Oct.raw_none _ _ _ (by first | with_reducible exact none_nil _ | with_reducible exact none_zero _ _ (by rw [cell_of (heap_alloc_new _ _)]; rfl) | with_reducible exact none_zero _ _ (by go_simp))).mono ?_; rintro e w' ⟨rfl, rfl⟩) | (go_at_call 14; refine (Oct.done_none _ _ (by first | with_reducible exact none_nil _ | with_reducible exact none_zero _ _ (by rw [cell_of (heap_alloc_new _ _)]; rfl) | with_reducible exact none_zero _ _ (by go_simp))).mono ?_; rintro e w' ⟨rfl, rfl⟩) | (go_at_call 17; refine (num_none _ _ _ (by first | with_reducible exact rn_nil _ | with_reducible exact rn_zero _ _ (by rw [cell_of (heap_alloc_new _ _)]; rfl) | with_reducible exact rn_zero _ _ (by go_simp))).mono ?_; rintro e w' ⟨rfl, rfl⟩) | (go_at_call 19; refine (text_none _ _ _ (by first | with_reducible exact rn_nil _ | with_reducible exact rn_zero _ _ (by rw [cell_of (heap_alloc_new _ _)]; rfl) | with_reducible exact rn_zero _ _ (by go_simp))).mono ?_; rintro e w' ⟨rfl, rfl⟩) | (go_at_call 21; refine (raw_none _ _ _ (by first | with_reducible exact rn_nil _ | with_reducible exact rn_zero _ _ (by rw [cell_of (heap_alloc_new _ _)]; rfl) | with_reducible exact rn_zero _ _ (by go_simp))).mono ?_; rintro e w' ⟨rfl, rfl⟩) | (go_at_call 23; refine (left_none _ _ (by first | with_reducible exact rn_nil _ | with_reducible exact rn_zero _ _ (by rw [cell_of (heap_alloc_new _ _)]; rfl) | with_reducible exact rn_zero _ _ (by go_simp))).mono ?_; rintro e w' ⟨rfl, rfl⟩) | (go_at_call 24; refine (err_none _ _ (by first | with_reducible exact rn_nil _ | with_reducible exact rn_zero _ _ (by rw [cell_of (heap_alloc_new _ _)]; rfl) | with_reducible exact rn_zero _ _ (by go_simp))).mono ?_; rintro e w' ⟨rfl, rfl⟩) | (go_at_call 25; refine (end_none _ _ (by first | with_reducible exact rn_nil _ | with_reducible exact rn_zero _ _ (by rw [cell_of (heap_alloc_new _ _)]; rfl) | with_reducible exact rn_zero _ _ (by go_simp))).mono ?_; rintro e w1 ⟨rfl, k1⟩; have K1 : Hid _ := k1; clear k1) | (go_at_call 15; refine (Law.awake_true _).mono ?_; rintro e w2 ⟨rfl, k2⟩; have K2 : Hid _ := k2; clear k2))
  go_ret
  refine ⟨rfl, Keep.below (S := fun _ => False) ?_ (Nat.le_refl _) (fun _ h => h.elim)⟩
  exact ((((Keep.refl _ _).alloc _).alloc _).trans K1.out).trans K2.out

theorem own : ownKnob Try.prog.godebug = none := by kernel_rfl
theorem laidOut : laidOutB Try.prog = true := by kernel_rfl
theorem contract (H : Type) (enc : TypeId × Value → H) (W : World) (base : Nat) (args : Array Value) (ds gs : List (DataW H)) (before : List MemPlace)
    (hval : ∀ (j : Nat) t v, Try.f7.params[j]? = some t → args[j]? = some v → Value.okWide Try.prog W .any base t v)
    (hW : DataW.Whole enc Try.prog Try.f7.params.toList Rows.octetZeroSpec.vars false W args.toList ds gs before) :
    Calls Try.prog 7 args W fun e W' => ∃ v, e = .returned v ∧ Rows.octetZeroSpec.post enc Try.prog Try.f7 false true false false W args v W' := by
  have hW' := hW
  obtain ⟨p, q, hA0, hV, rfl, hfz, hnd⟩ := hW
  have hA : DataW.TrodAll enc Try.prog W 0 (fun _ => true) true Try.f7.params.toList args.toList ds p := hA0
  rw [Try.params7] at hA hval
  obtain ⟨rfl, rfl⟩ := trodVars_none hV
  obtain ⟨v0, vs0, d0, ds0, p0, q0, hargs, rfl, rfl, h0, r0⟩ := trodAll_cons hA
  obtain ⟨v1, vs1, d1, ds1, p1, q1, rfl, rfl, rfl, h1, r1⟩ := trodAll_cons r0
  obtain ⟨rfl, rfl, rfl⟩ := trodAll_nil r1
  obtain rfl : args = #[v0, v1] := by cases args; simp_all
  obtain ⟨n, rfl, rfl, rfl, _⟩ := open_int Try.underlying3 (hval 0 _ v0 rfl rfl) h0
  obtain ⟨s, rfl, rfl, rfl, _⟩ := open_string Try.underlying9 (hval 1 _ v1 rfl rfl) h1
  refine (walk n s W).mono fun e W' ⟨he, bel⟩ => ?_
  subst he
  exact ⟨_, rfl, Opn.law_post laidOut (by kernel_rfl) rfl Try.underlying4 rfl rfl hW' bel⟩
set_option maxRecDepth 100000 in
theorem lifted (os : Os) (started : os.Started) (H : Type) (enc : TypeId × Value → H) :
    ReturnsInHanded {} Try.checked os 7 .any (Rows.octetZeroSpec.pre6 enc Try.prog Try.f7 Rows.octetZeroRow.domain false) (Rows.octetZeroSpec.post enc Try.prog Try.f7 false true false false) := by
  refine returnsInHanded_of_change (C := Try.checked) own started (by kernel_rfl) Try.func7
    (ChangeSpec.witness6 (enc := enc) (C := Try.checked) false ⟨#[], #[.int .i64 0, .string .empty], []⟩ 8 (by kernel_rfl) (by kernel_rfl) (by kernel_rfl) (by kernel_rfl)) ?_
  intro W base args ds gs before hval0 hW hcnd _
  exact contract H enc W base args ds gs before hval0 hW
theorem over : Rows.octetZeroRow.holds Try.pinned (OpenSpec.ofChange Rows.octetZeroSpec) :=
  OpenClaim.holds_of_wide 7 Try.f7 rfl rfl rfl rfl rfl rfl rfl ⟨rfl, rfl, rfl, rfl, rfl⟩ rfl rfl rfl rfl rfl (by kernel_rfl) Try.func7 (by kernel_rfl)
    (of_decide_eq_true (by kernel_rfl)) (by unfold Func.isWrapper; first | (rw [if_pos (by decide +kernel)]; kernel_rfl) | (rw [if_neg (by decide +kernel)]; exact ⟨rfl, rfl⟩))
    (fun os started H enc _ => lifted os started H enc)
theorem proved : Rows.OctetZeroSaid := over
end OctZero
end Go.Proofs.Ytbeiaobdapapjaa
