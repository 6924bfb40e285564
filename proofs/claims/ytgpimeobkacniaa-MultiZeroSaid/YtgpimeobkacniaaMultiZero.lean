/-
  'petrellaw24.MultiZero': one that nobody made has nothing. For every input.
-/
import Derived.Test.YtgpimeobkacniaaMuW
import Derived.Test.YtgpimeobkacniaaOpnU
set_option linter.unusedVariables false
set_option linter.unusedSimpArgs false
namespace Go.Proofs.Ytgpimeobkacniaa
open Go.RowKit Go.ChangeShapes Go.WideShapes Go.ChangeAt
open Go.ChangeMaps (open_string shut_string)
namespace MultiZero
open Oct Ids Mu
open Sq (at_load at_alloc at_store wl_buildL)
open Mem (M It blk ids rows)
set_option maxRecDepth 100000 in
set_option maxHeartbeats 8000000 in
theorem walk (u : List UInt8) (hu : u.length = 32) (key : ByteArray) (w : World) :
    Calls Try.prog 6 #[idv u, .string key] w fun e w' => e = .returned (.bool true) ∧ Below w.heap.size w w' := by
  have HU : Hid (u.length = 32) := hu
  have HM : Hid (M (fun _ => False) w _ [blk w.heap.size (.cells (u.map bv).toArray 35), blk (w.heap.size + 1) (.cells #[.map none, .map none] 75)]) := ((M.start _ w).alloc (.cells (u.map bv).toArray 35) rfl).alloc (.cells #[.map none, .map none] 75) (by simp)
  clear hu
  go_enter Try.func6, Try.ntmps6
  go_wp2_with (first | ((with_reducible refine at_load 35 ?_); refine Sq.wl_loadG (by rfl) rfl rfl HU.out (HM.out.range 0 rfl) ?_; simp only [Act.put, List.setIfInBounds_toArray, List.set_cons_zero, List.set_cons_succ]) | (go_at_call 26; refine (zmset _ _ (by first | exact .inl rfl | exact .inr ⟨_, rfl, HM.out.get 1 rfl⟩) u key ⟨#[97]⟩ _).mono ?_; rintro e w1 ⟨rfl, k1⟩; have HM : Hid _ := HM.out.calm k1; clear k1) | (go_at_call 28; refine (zmget _ _ (by first | exact .inl rfl | exact .inr ⟨_, rfl, HM.out.get 1 rfl⟩) key).mono ?_; rintro e w1 ⟨rfl, k1⟩; have HM : Hid _ := HM.out.calm k1; clear k1) | (go_at_call 25; refine (zmids _ _ (by first | exact .inl rfl | exact .inr ⟨_, rfl, HM.out.get 1 rfl⟩) key).mono ?_; rintro e w1 ⟨ia, ic, rfl, k1⟩; have HM : Hid _ := HM.out.calm k1; clear k1) | (go_at_call 32; refine (zmlist _ _ (by first | exact .inl rfl | exact .inr ⟨_, rfl, HM.out.get 1 rfl⟩)).mono ?_; rintro e w1 ⟨rfl, k1⟩; have HM : Hid _ := HM.out.calm k1; clear k1) | (go_at_call 35; refine (zmput _ _ (by first | exact .inl rfl | exact .inr ⟨_, rfl, HM.out.get 1 rfl⟩)).mono ?_; rintro e w1 ⟨rfl, h1⟩; replace h1 := h1.symm; subst h1) | (go_at_call 21; refine (awakeM _).mono ?_; rintro e w1 ⟨rfl, k1⟩; have HM : Hid _ := HM.out.calm k1; clear k1))
  go_ret
  exact ⟨rfl, Keep.below HM.out.keep (Nat.le_refl _) (fun _ h => h.elim)⟩
set_option maxRecDepth 100000 in
theorem own : ownKnob Try.prog.godebug = none := by kernel_rfl
set_option maxRecDepth 100000 in
theorem laidOut : laidOutB Try.prog = true := by kernel_rfl
set_option maxRecDepth 100000 in
theorem contract (H : Type) (enc : TypeId × Value → H) (W : World) (base : Nat) (args : Array Value) (ds gs : List (DataW H)) (before : List MemPlace)
    (hval : ∀ (j : Nat) t v, Try.f6.params[j]? = some t → args[j]? = some v → Value.okWide Try.prog W .any base t v)
    (hW : DataW.Whole enc Try.prog Try.f6.params.toList Rows.multiZeroSpec.vars false W args.toList ds gs before) :
    Calls Try.prog 6 args W fun e W' => ∃ v, e = .returned v ∧ Rows.multiZeroSpec.post enc Try.prog Try.f6 false true false false W args v W' := by
  have hW' := hW
  obtain ⟨p, q, hA0, hV, rfl, hfz, hnd⟩ := hW
  have hA : DataW.TrodAll enc Try.prog W 0 (fun _ => true) true Try.f6.params.toList args.toList ds p := hA0
  rw [Try.params6] at hA hval
  obtain ⟨rfl, rfl⟩ := trodVars_none hV
  obtain ⟨v0, vs0, d0, ds0, p0, q0, hargs, rfl, rfl, h0, r0⟩ := trodAll_cons hA
  obtain ⟨v1, vs1, d1, ds1, p1, q1, rfl, rfl, rfl, h1, r1⟩ := trodAll_cons r0
  obtain ⟨rfl, rfl, rfl⟩ := trodAll_nil r1
  obtain rfl : args = #[v0, v1] := by cases args; simp_all
  obtain ⟨a, rfl, la⟩ := Opn.open_id (hval 0 _ v0 rfl rfl) h0
  obtain ⟨s, rfl, rfl, rfl, hs⟩ := open_string Try.underlying9 (hval 1 _ v1 rfl rfl) h1
  refine (walk a la s W).mono fun e W' ⟨he, bel⟩ => ?_
  subst he
  exact ⟨_, rfl, Opn.law_post laidOut (by kernel_rfl) rfl Try.underlying4 rfl rfl hW' bel⟩
set_option maxRecDepth 100000 in
theorem lifted (os : Os) (started : os.Started) (H : Type) (enc : TypeId × Value → H) :
    ReturnsInHanded {} Try.checked os 6 .any (Rows.multiZeroSpec.pre6 enc Try.prog Try.f6 Rows.multiZeroRow.domain false) (Rows.multiZeroSpec.post enc Try.prog Try.f6 false true false false) := by
  refine returnsInHanded_of_change (C := Try.checked) own started (by kernel_rfl) Try.func6
    (ChangeSpec.witness6 (enc := enc) (C := Try.checked) false ⟨#[], #[idv (List.replicate 32 0), .string ByteArray.empty], []⟩ 8 (by kernel_rfl) (by kernel_rfl) (by kernel_rfl) (by kernel_rfl)) ?_
  intro W base args ds gs before hval0 hW hcnd _
  exact contract H enc W base args ds gs before hval0 hW
theorem over : Rows.multiZeroRow.holds Try.pinned (OpenSpec.ofChange Rows.multiZeroSpec) :=
  OpenClaim.holds_of_wide 6 Try.f6 rfl rfl rfl rfl rfl rfl rfl ⟨rfl, rfl, rfl, rfl, rfl⟩ rfl rfl rfl rfl rfl (by kernel_rfl) Try.func6 (by kernel_rfl)
    (of_decide_eq_true (by kernel_rfl)) (by unfold Func.isWrapper; first | (rw [if_pos (by decide +kernel)]; kernel_rfl) | (rw [if_neg (by decide +kernel)]; exact ⟨rfl, rfl⟩))
    (fun os started H enc _ => lifted os started H enc)
theorem proved : Rows.MultiZeroSaid := over
end MultiZero
end Go.Proofs.Ytgpimeobkacniaa
