/-
  'petrellaw25.SeqZero': one that nobody made has nothing. For every input.
-/
import Derived.Test.YtenokpkpdeegcaaSqA
import Derived.Test.YtenokpkpdeegcaaOpnU
set_option linter.unusedVariables false
set_option linter.unusedSimpArgs false
namespace Go.Proofs.Ytenokpkpdeegcaa
open Go.RowKit Go.ChangeShapes Go.WideShapes Go.ChangeAt
open Go.ChangeMaps (open_string shut_string)
namespace SeqZero
open Oct Ids Sq
open Mem (M It blk ids rows)
section
variable {ops : Array Oper} {rest : List Oper} {o : Oper} {a : Act} {w : World} {Q : Exit → Act → World → Prop}
/-- 'api.Id{}', guarded or not. -/
theorem wl_buildZ (hw : Region.wanted o (yielded ops a.tmps) = true) (ho : o.op = .build 35 #[]) (h : wpList Try.prog ops Q rest (a.put o.dst (.agg z32)) w) : wpList Try.prog ops Q (o :: rest) a w :=
  wpList_step fun K hK => by
    rw [if_pos hw]
    have hr : ∀ w, (execOp a.eval o).run Try.prog w = .ok (.value (.agg z32)) w := ex_buildL ho [] rfl (by kernel_rfl)
    unfold Oper.wp
    rw [hr]
    exact hK _ _ h
end
set_option maxRecDepth 100000 in
set_option maxHeartbeats 8000000 in
theorem walk (u : List UInt8) (hu : u.length = 32) (n : Int) (w : World) :
    Calls Try.prog 8 #[idv u, .int .i64 n] w fun e w' => e = .returned (.bool true) ∧ Below w.heap.size w w' := by
  have HU : Hid (u.length = 32) := hu
  have HM : Hid (M (fun _ => False) w _ [blk w.heap.size (.cells (u.map bv).toArray 35), blk (w.heap.size + 1) (.cells #[.map none, .map none, .map none] 83)]) := ((M.start _ w).alloc (.cells (u.map bv).toArray 35) rfl).alloc (.cells #[.map none, .map none, .map none] 83) (by simp)
  clear hu
  go_enter Try.func8, Try.ntmps8
  go_wp2_with (first | ((with_reducible refine at_load 35 ?_); refine wl_loadG (by rfl) rfl rfl HU.out (HM.out.range 0 rfl) ?_; simp only [Act.put, List.setIfInBounds_toArray, List.set_cons_zero, List.set_cons_succ]) | (refine wl_buildZ (by rfl) rfl ?_; simp only [Act.put, List.setIfInBounds_toArray, List.set_cons_zero, List.set_cons_succ]) | (go_at_call 46; refine (zinsert _ _ (by first | exact .inl rfl | exact .inr ⟨_, rfl, HM.out.get 1 rfl⟩) u Zi n ⟨#[97]⟩).mono ?_; rintro e w1 ⟨rfl, k1⟩; have HM : Hid _ := HM.out.calm k1; clear k1) | (go_at_call 47; refine (zdelete _ _ (by first | exact .inl rfl | exact .inr ⟨_, rfl, HM.out.get 1 rfl⟩) u).mono ?_; rintro e w1 ⟨rfl, k1⟩; have HM : Hid _ := HM.out.calm k1; clear k1) | (go_at_call 43; refine (zlen _ _ (by first | exact .inl rfl | exact .inr ⟨_, rfl, HM.out.get 1 rfl⟩)).mono ?_; rintro e w1 ⟨rfl, h1⟩; replace h1 := h1.symm; subst h1) | (go_at_call 44; refine (zput _ _ (by first | exact .inl rfl | exact .inr ⟨_, rfl, HM.out.get 1 rfl⟩)).mono ?_; rintro e w1 ⟨rfl, h1⟩; replace h1 := h1.symm; subst h1) | (go_at_call 17; refine (zorder _ _ (by first | exact .inl rfl | exact .inr ⟨_, rfl, HM.out.get 1 rfl⟩)).mono ?_; rintro e w1 ⟨rfl, k1⟩; have HM : Hid _ := HM.out.calm k1; clear k1) | (go_at_call 41; refine (zlist _ _ (by first | exact .inl rfl | exact .inr ⟨_, rfl, HM.out.get 1 rfl⟩)).mono ?_; rintro e w1 ⟨rfl, k1⟩; have HM : Hid _ := HM.out.calm k1; clear k1) | (go_at_call 13; refine (awakeS _).mono ?_; rintro e w1 ⟨rfl, k1⟩; have HM : Hid _ := HM.out.calm k1; clear k1))
  go_ret
  exact ⟨rfl, Keep.below HM.out.keep (Nat.le_refl _) (fun _ h => h.elim)⟩
set_option maxRecDepth 100000 in
theorem own : ownKnob Try.prog.godebug = none := by kernel_rfl
set_option maxRecDepth 100000 in
theorem laidOut : laidOutB Try.prog = true := by kernel_rfl
set_option maxRecDepth 100000 in
theorem contract (H : Type) (enc : TypeId × Value → H) (W : World) (base : Nat) (args : Array Value) (ds gs : List (DataW H)) (before : List MemPlace)
    (hval : ∀ (j : Nat) t v, Try.f8.params[j]? = some t → args[j]? = some v → Value.okWide Try.prog W .any base t v)
    (hW : DataW.Whole enc Try.prog Try.f8.params.toList Rows.seqZeroSpec.vars false W args.toList ds gs before) :
    Calls Try.prog 8 args W fun e W' => ∃ v, e = .returned v ∧ Rows.seqZeroSpec.post enc Try.prog Try.f8 false true false false W args v W' := by
  have hW' := hW
  obtain ⟨p, q, hA0, hV, rfl, hfz, hnd⟩ := hW
  have hA : DataW.TrodAll enc Try.prog W 0 (fun _ => true) true Try.f8.params.toList args.toList ds p := hA0
  rw [Try.params8] at hA hval
  obtain ⟨rfl, rfl⟩ := trodVars_none hV
  obtain ⟨v0, vs0, d0, ds0, p0, q0, hargs, rfl, rfl, h0, r0⟩ := trodAll_cons hA
  obtain ⟨v1, vs1, d1, ds1, p1, q1, rfl, rfl, rfl, h1, r1⟩ := trodAll_cons r0
  obtain ⟨rfl, rfl, rfl⟩ := trodAll_nil r1
  obtain rfl : args = #[v0, v1] := by cases args; simp_all
  obtain ⟨a, rfl, la⟩ := Opn.open_id (hval 0 _ v0 rfl rfl) h0
  obtain ⟨q, rfl, rfl, rfl, hq⟩ := open_int Try.underlying3 (hval 1 _ v1 rfl rfl) h1
  refine (walk a la q W).mono fun e W' ⟨he, bel⟩ => ?_
  subst he
  exact ⟨_, rfl, Opn.law_post laidOut (by kernel_rfl) rfl Try.underlying4 rfl rfl hW' bel⟩
set_option maxRecDepth 100000 in
theorem lifted (os : Os) (started : os.Started) (H : Type) (enc : TypeId × Value → H) :
    ReturnsInHanded {} Try.checked os 8 .any (Rows.seqZeroSpec.pre6 enc Try.prog Try.f8 Rows.seqZeroRow.domain false) (Rows.seqZeroSpec.post enc Try.prog Try.f8 false true false false) := by
  refine returnsInHanded_of_change (C := Try.checked) own started (by kernel_rfl) Try.func8
    (ChangeSpec.witness6 (enc := enc) (C := Try.checked) false ⟨#[], #[idv (List.replicate 32 0), .int .i64 0], []⟩ 8 (by kernel_rfl) (by kernel_rfl) (by kernel_rfl) (by kernel_rfl)) ?_
  intro W base args ds gs before hval0 hW hcnd _
  exact contract H enc W base args ds gs before hval0 hW
theorem over : Rows.seqZeroRow.holds Try.pinned (OpenSpec.ofChange Rows.seqZeroSpec) :=
  OpenClaim.holds_of_wide 8 Try.f8 rfl rfl rfl rfl rfl rfl rfl ⟨rfl, rfl, rfl, rfl, rfl⟩ rfl rfl rfl rfl rfl (by kernel_rfl) Try.func8 (by kernel_rfl)
    (of_decide_eq_true (by kernel_rfl)) (by unfold Func.isWrapper; first | (rw [if_pos (by decide +kernel)]; kernel_rfl) | (rw [if_neg (by decide +kernel)]; exact ⟨rfl, rfl⟩))
    (fun os started H enc _ => lifted os started H enc)
theorem proved : Rows.SeqZeroSaid := over
end SeqZero
end Go.Proofs.Ytenokpkpdeegcaa
