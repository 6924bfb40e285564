/-
  'petrellaw33.FetchZero': one that nobody made fetches nothing. For every input.
-/
import Derived.Test.YtgllkfolckbdhaaFeD
import Derived.Test.YtgllkfolckbdhaaOpnU
set_option linter.unusedVariables false
set_option linter.unusedSimpArgs false
namespace Go.Proofs.Ytgllkfolckbdhaa
open Go.RowKit Go.ChangeShapes Go.WideShapes Go.ChangeAt
open Go.ChangeMaps (open_string shut_string)
namespace FetchZero
open Oct Ids Fe
open Mem (M It blk ids rows)
section
variable {ops : Array Oper} {rest : List Oper} {o : Oper} {a : Act} {w : World} {Q : Exit → Act → World → Prop}
/-- An operation that only reckons. -/
theorem wl_p {v : Value} (hw : Region.wanted o (yielded ops a.tmps) = true) (h : ∀ w, (execOp a.eval o).run Try.prog w = .ok (.value v) w) (hh : wpList Try.prog ops Q rest (a.put o.dst v) w) : wpList Try.prog ops Q (o :: rest) a w :=
  wpList_step fun K hK => by
    rw [if_pos hw]
    unfold Oper.wp
    rw [h]
    exact hK _ _ hh
end
set_option maxRecDepth 100000 in
set_option maxHeartbeats 8000000 in
theorem walk (u : List UInt8) (hu : u.length = 32) (f n : Int) (w : World) :
    Calls Try.prog 5 #[idv u, .int .i64 f, .int .i64 n] w fun e w' => e = .returned (.bool true) ∧ Below w.heap.size w w' := by
  have HU : Hid (u.length = 32) := hu
  have HM : Hid (M (fun _ => False) w _ [blk w.heap.size (.cells (u.map bv).toArray 32), blk (w.heap.size + 1) (.cells #[.slice none 0 0, .pointer none, .slice none 0 0, .int .i64 0] 54)]) := ((M.start _ w).alloc (.cells (u.map bv).toArray 32) rfl).alloc (.cells #[.slice none 0 0, .pointer none, .slice none 0 0, .int .i64 0] 54) (by simp)
  clear hu
  go_enter Try.func5, Try.ntmps5
  go_wp2_with (first | ((with_reducible refine at_dst 10 ?_); generalize hp3 : Value.pointer (some (⟨w.heap.size, 0, none⟩ : Addr)) = p3; have HP : Hid (p3 = Value.pointer (some (⟨w.heap.size, 0, none⟩ : Addr))) := hp3.symm; clear hp3; refine wl_loadG (by rfl) rfl (show p3 = _ from HP.out) HU.out (HM.out.range 0 rfl) ?_; simp only [Act.put, List.setIfInBounds_toArray, List.set_cons_zero, List.set_cons_succ]) | ((with_reducible refine at_load 32 ?_); refine wl_loadG (by rfl) rfl (show p3 = _ from HP.out) HU.out (HM.out.range 0 rfl) ?_; simp only [Act.put, List.setIfInBounds_toArray, List.set_cons_zero, List.set_cons_succ]) | (refine Ids.wl_build (l := u) rfl rfl HU.out rfl ?_; have HM : Hid _ := HM.out.alloc (.cells (u.map bv).toArray 32) (by first | rfl | simp only [World.size_alloc]); simp only [Act.put, List.setIfInBounds_toArray, List.set_cons_zero, List.set_cons_succ]) | (go_at_call 9; refine (zround _ _ (by first | exact .inl rfl | exact .inr ⟨_, rfl, HM.out.cell 1 rfl 1 rfl⟩) _ _ _ n).mono ?_; rintro e w1 ⟨rfl, k1⟩; have HM : Hid _ := HM.out.calm k1; clear k1) | (go_at_call 11; refine (zheld _ _ (by first | exact .inl rfl | exact .inr ⟨_, rfl, HM.out.cell 1 rfl 1 rfl⟩)).mono ?_; rintro e w1 ⟨rfl, k1⟩; have HM : Hid _ := HM.out.calm k1; clear k1) | (go_at_call 19; refine (zall _ _ (by first | exact .inl rfl | exact .inr ⟨_, rfl, HM.out.cell 1 rfl 1 rfl⟩)).mono ?_; rintro e w1 ⟨rfl, k1⟩; have HM : Hid _ := HM.out.calm k1; clear k1; (dsimp only); (refine ‹∀ (a : Act) (w : World), wpList _ _ _ _ a w → _› _ _ ?_); (repeat (first | (refine wl_p (v := ?_) (by rfl) ?_ ?_; rotate_left; (focus (intro _; go_simp; try with_reducible rfl)); simp only [Act.put, List.setIfInBounds_toArray, List.set_cons_zero, List.set_cons_succ]) | (refine wl_loadG (by rfl) rfl (show p3 = _ from HP.out) HU.out (HM.out.range 0 rfl) ?_; simp only [Act.put, List.setIfInBounds_toArray, List.set_cons_zero, List.set_cons_succ])))) | (go_at_call 13; refine (zhave _ _ (by first | exact .inl rfl | exact .inr ⟨_, rfl, HM.out.cell 1 rfl 1 rfl⟩) u HU.out f n).mono ?_; rintro e w1 ⟨rfl, k1⟩; have HM : Hid _ := HM.out.calm k1; clear k1; (dsimp only); (refine ‹∀ (a : Act) (w : World), wpList _ _ _ _ a w → _› _ _ ?_); (repeat (first | (refine wl_p (v := ?_) (by rfl) ?_ ?_; rotate_left; (focus (intro _; go_simp; try with_reducible rfl)); simp only [Act.put, List.setIfInBounds_toArray, List.set_cons_zero, List.set_cons_succ]) | (refine wl_loadG (by rfl) rfl (show p3 = _ from HP.out) HU.out (HM.out.range 0 rfl) ?_; simp only [Act.put, List.setIfInBounds_toArray, List.set_cons_zero, List.set_cons_succ])))) | (go_at_call 14; refine (zdeny _ _ (by first | exact .inl rfl | exact .inr ⟨_, rfl, HM.out.cell 1 rfl 1 rfl⟩) u HU.out f n).mono ?_; rintro e w1 ⟨rfl, k1⟩; have HM : Hid _ := HM.out.calm k1; clear k1; (dsimp only); (refine ‹∀ (a : Act) (w : World), wpList _ _ _ _ a w → _› _ _ ?_); (repeat (first | (refine wl_p (v := ?_) (by rfl) ?_ ?_; rotate_left; (focus (intro _; go_simp; try with_reducible rfl)); simp only [Act.put, List.setIfInBounds_toArray, List.set_cons_zero, List.set_cons_succ]) | (refine wl_loadG (by rfl) rfl (show p3 = _ from HP.out) HU.out (HM.out.range 0 rfl) ?_; simp only [Act.put, List.setIfInBounds_toArray, List.set_cons_zero, List.set_cons_succ])))) | (go_at_call 15; refine (zwrong _ _ (by first | exact .inl rfl | exact .inr ⟨_, rfl, HM.out.cell 1 rfl 1 rfl⟩) f n).mono ?_; rintro e w1 ⟨rfl, k1⟩; have HM : Hid _ := HM.out.calm k1; clear k1) | (go_at_call 16; refine (zdone _ _ (by first | exact .inl rfl | exact .inr ⟨_, rfl, HM.out.cell 1 rfl 1 rfl⟩) _ _ _ f).mono ?_; rintro e w1 ⟨rfl, k1⟩; have HM : Hid _ := HM.out.calm k1; clear k1) | (go_at_call 7; refine (zboard _ _ (by first | exact .inl rfl | exact .inr ⟨_, rfl, HM.out.cell 1 rfl 1 rfl⟩)).mono ?_; rintro e w1 ⟨rfl, k1⟩; have HM : Hid _ := HM.out.calm k1; clear k1) | (go_at_call 12; refine (awakeF _).mono ?_; rintro e w1 ⟨rfl, k1⟩; have HM : Hid _ := HM.out.calm k1; clear k1))
  go_ret
  exact ⟨rfl, Keep.below HM.out.keep (Nat.le_refl _) (fun _ h => h.elim)⟩
set_option maxRecDepth 100000 in
theorem own : ownKnob Try.prog.godebug = none := by kernel_rfl
set_option maxRecDepth 100000 in
theorem laidOut : laidOutB Try.prog = true := by kernel_rfl
set_option maxRecDepth 100000 in
theorem contract (H : Type) (enc : TypeId × Value → H) (W : World) (base : Nat) (args : Array Value) (ds gs : List (DataW H)) (before : List MemPlace)
    (hval : ∀ (j : Nat) t v, Try.f5.params[j]? = some t → args[j]? = some v → Value.okWide Try.prog W .any base t v)
    (hW : DataW.Whole enc Try.prog Try.f5.params.toList Rows.fetchZeroSpec.vars false W args.toList ds gs before) :
    Calls Try.prog 5 args W fun e W' => ∃ v, e = .returned v ∧ Rows.fetchZeroSpec.post enc Try.prog Try.f5 false true false false W args v W' := by
  have hW' := hW
  obtain ⟨p, q, hA0, hV, rfl, hfz, hnd⟩ := hW
  have hA : DataW.TrodAll enc Try.prog W 0 (fun _ => true) true Try.f5.params.toList args.toList ds p := hA0
  rw [Try.params5] at hA hval
  obtain ⟨rfl, rfl⟩ := trodVars_none hV
  obtain ⟨v0, vs0, d0, ds0, p0, q0, hargs, rfl, rfl, h0, r0⟩ := trodAll_cons hA
  obtain ⟨v1, vs1, d1, ds1, p1, q1, rfl, rfl, rfl, h1, r1⟩ := trodAll_cons r0
  obtain ⟨v2, vs2, d2, ds2, p2, q2, rfl, rfl, rfl, h2, r2⟩ := trodAll_cons r1
  obtain ⟨rfl, rfl, rfl⟩ := trodAll_nil r2
  obtain rfl : args = #[v0, v1, v2] := by cases args; simp_all
  obtain ⟨a, rfl, la⟩ := Opn.open_id (hval 0 _ v0 rfl rfl) h0
  obtain ⟨f, rfl, rfl, rfl, hf⟩ := open_int Try.underlying3 (hval 1 _ v1 rfl rfl) h1
  obtain ⟨q, rfl, rfl, rfl, hq⟩ := open_int Try.underlying3 (hval 2 _ v2 rfl rfl) h2
  refine (walk a la f q W).mono fun e W' ⟨he, bel⟩ => ?_
  subst he
  exact ⟨_, rfl, Opn.law_post laidOut (by kernel_rfl) rfl Try.underlying4 rfl rfl hW' bel⟩
set_option maxRecDepth 100000 in
theorem lifted (os : Os) (started : os.Started) (H : Type) (enc : TypeId × Value → H) :
    ReturnsInHanded {} Try.checked os 5 .any (Rows.fetchZeroSpec.pre6 enc Try.prog Try.f5 Rows.fetchZeroRow.domain false) (Rows.fetchZeroSpec.post enc Try.prog Try.f5 false true false false) := by
  refine returnsInHanded_of_change (C := Try.checked) own started (by kernel_rfl) Try.func5
    (ChangeSpec.witness6 (enc := enc) (C := Try.checked) false ⟨#[], #[idv (List.replicate 32 0), .int .i64 0, .int .i64 0], []⟩ 8 (by kernel_rfl) (by kernel_rfl) (by kernel_rfl) (by kernel_rfl)) ?_
  intro W base args ds gs before hval0 hW hcnd _
  exact contract H enc W base args ds gs before hval0 hW
theorem over : Rows.fetchZeroRow.holds Try.pinned (OpenSpec.ofChange Rows.fetchZeroSpec) :=
  OpenClaim.holds_of_wide 5 Try.f5 rfl rfl rfl rfl rfl rfl rfl ⟨rfl, rfl, rfl, rfl, rfl⟩ rfl rfl rfl rfl rfl (by kernel_rfl) Try.func5 (by kernel_rfl)
    (of_decide_eq_true (by kernel_rfl)) (by unfold Func.isWrapper; first | (rw [if_pos (by decide +kernel)]; kernel_rfl) | (rw [if_neg (by decide +kernel)]; exact ⟨rfl, rfl⟩))
    (fun os started H enc _ => lifted os started H enc)
theorem proved : Rows.FetchZeroSaid := over
end FetchZero
end Go.Proofs.Ytgllkfolckbdhaa
