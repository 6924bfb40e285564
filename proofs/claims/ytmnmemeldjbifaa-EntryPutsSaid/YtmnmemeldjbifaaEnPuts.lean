/-
  'petrellaw14.EntryPuts': any entry is put and checked as the document says. For every input.
-/
import Derived.Test.YtmnmemeldjbifaaEnA
set_option linter.unusedVariables false
set_option linter.unusedSimpArgs false
namespace Go.Proofs.Ytmnmemeldjbifaa
open Go.RowKit
namespace EnPuts
open Oct Ids En Go.ChangeShapes Go.WideShapes Go.ChangeAt
open Go.ChangeMaps (open_string shut_string)

set_option maxRecDepth 100000 in
set_option maxHeartbeats 2000000 in
theorem walk (K : Int) (T B : ByteArray) (c : List UInt8) (w : World) (hc : c.length = 32) (hT : T.size ≤ maxLen) (hB : B.size ≤ maxLen) :
    Calls Try.prog 6 #[.agg (ec K T B c).toArray] w fun e w' => e = .returned (.bool true) ∧ Below w.heap.size w w' := by
  have E0 : Hid _ := EAt.new (K := K) (T := T) (B := B) w hc
  have Hp : Hid (∀ w, _) := fun w => put_any w K T B c hc hT hB
  have Hr : Hid (∀ w, _) := fun w => rput_any w K T B c hc hT hB
  have Hc : Hid (∀ w, _) := fun w => En.check_any w K T B c hc hT hB
  have Hd : Hid (∀ w, _) := fun w => rcheck_any w K T B c hc hT hB
  have Hl : Hid _ := hc
  generalize pv K T B c = p at Hp Hr
  generalize ck K T B c = v at Hp Hr Hc Hd
  unfold maxLen at hT hB
  obtain ⟨g0, g1, g2⟩ := E0.out.cells
  have HA : Hid (∀ w, _) := fun w => awake_true w
  clear hc
  by_cases hgo : B.size ≤ 5000 ∧ T.size ≤ 100
  · obtain ⟨h1, h2⟩ := hgo
    go_enter Try.func6, Try.ntmps6
    go_wp2_with (first | (refine St.wl_load stE (by rfl) rfl rfl E0.out.all (ec_len _ _ _ _ Hl.out) ?_; simp only [Act.put, List.setIfInBounds_toArray, List.set_cons_zero, List.set_cons_succ]) | (go_at_call 21; refine (Hp.out _).mono ?_; rintro e w1 ⟨rfl, k1⟩; have HK : Hid _ := ((Keep.refl (fun _ => False) w).alloc _).trans k1; have E0 : Hid _ := E0.out.calm k1; clear k1; obtain ⟨g0, g1, g2⟩ := E0.out.cells) | (go_at_call 22; refine (Hr.out _).mono ?_; rintro e w2 ⟨rfl, k1⟩; have HK : Hid _ := HK.out.trans k1; have E0 : Hid _ := E0.out.calm k1; clear k1; obtain ⟨g0, g1, g2⟩ := E0.out.cells) | ((fail_if_success go_not_at_region 5); refine Txt.wp_region_text (id := 5) (fun w' => EAt w' w.heap.size K T B c) [0, 0, 0, 0, 0, 0, 0, 0, 0, 1, 4, 2, 4, 0, 0, 0, 4, 0, 0] (by kernel_rfl) (by kernel_rfl) (E0.out.calm (Keep.refl _ _).drew) ?_; have HK : Hid _ := HK.out.drew; have E0 : Hid _ := E0.out.calm (Keep.refl _ _).drew; clear g0 g1 g2; (repeat (first | (refine Txt.tl_pure (v := ?_) (by rfl) ?_ ?_; rotate_left; (focus (intro _; go_simp; try with_reducible rfl)); simp only [Act.put, List.setIfInBounds_toArray, List.set_cons_zero, List.set_cons_succ]) | (refine Txt.tl_skip (by rfl) (by first | trivial | exact HS.out) ?_; simp only [Act.put, List.setIfInBounds_toArray, List.set_cons_zero, List.set_cons_succ]) | (refine Txt.tl_load (v := ?_) (by rfl) (by rfl) (by rfl) (by kernel_rfl) ?_ ?_; rotate_left; (focus (first | assumption | (go_simp; done) | (go_simp; with_reducible rfl))); simp only [Act.put, List.setIfInBounds_toArray, List.set_cons_zero, List.set_cons_succ]) | (refine Txt.tl_loadB (v := ?_) (by rfl) (by rfl) (by rfl) (by kernel_rfl) ?_ ?_; rotate_left; (focus assumption); simp only [Act.put, List.setIfInBounds_toArray, List.set_cons_zero, List.set_cons_succ]))); refine Txt.tl_rowN (n := 35) (by rfl) (by rfl) (by rfl) E0.out.all (by kernel_rfl) (ec_len _ _ _ _ Hl.out) ?_; simp only [Act.put, List.setIfInBounds_toArray, List.set_cons_zero, List.set_cons_succ]; refine Txt.tl_call Try.func23 (by kernel_rfl) (by kernel_rfl) (by rfl) (by rfl) (by rfl) (Hc.out _) ?_; rintro e w3 ⟨rfl, k1⟩; have HK : Hid _ := HK.out.trans k1; have E0 : Hid _ := E0.out.calm k1; clear k1; refine ⟨_, rfl, E0.out, ?_⟩; simp only [Act.put, List.setIfInBounds_toArray, List.set_cons_zero, List.set_cons_succ]; refine Txt.tl_rowSN (n := 35) (by rfl) (by rfl) (by rfl) (fun _ h => h.all) (by kernel_rfl) (ec_len _ _ _ _ Hl.out) ?_; simp only [Act.put, List.setIfInBounds_toArray, List.set_cons_zero, List.set_cons_succ]; refine Txt.tl_call Try.func24 (by kernel_rfl) (by kernel_rfl) (by rfl) (by rfl) (by rfl) (Hd.out _) ?_; rintro e w4 ⟨rfl, k1⟩; have HK : Hid _ := HK.out.trans k1; have E0 : Hid _ := E0.out.calm k1; clear k1; refine ⟨_, rfl, E0.out, ?_⟩; simp only [Act.put, List.setIfInBounds_toArray, List.set_cons_zero, List.set_cons_succ]; (repeat (first | (refine Txt.tl_pure (v := ?_) (by rfl) ?_ ?_; rotate_left; (focus (intro _; go_simp; try with_reducible rfl)); simp only [Act.put, List.setIfInBounds_toArray, List.set_cons_zero, List.set_cons_succ]) | (refine Txt.tl_skip (by rfl) (by first | trivial | exact HS.out) ?_; simp only [Act.put, List.setIfInBounds_toArray, List.set_cons_zero, List.set_cons_succ]) | (refine Txt.tl_load (v := ?_) (by rfl) (by rfl) (by rfl) (by kernel_rfl) ?_ ?_; rotate_left; (focus (first | assumption | (go_simp; done) | (go_simp; with_reducible rfl))); simp only [Act.put, List.setIfInBounds_toArray, List.set_cons_zero, List.set_cons_succ]) | (refine Txt.tl_loadB (v := ?_) (by rfl) (by rfl) (by rfl) (by kernel_rfl) ?_ ?_; rotate_left; (focus assumption); simp only [Act.put, List.setIfInBounds_toArray, List.set_cons_zero, List.set_cons_succ]))); refine Txt.tl_call Try.func20 (by kernel_rfl) (by kernel_rfl) (by rfl) (by rfl) (by rfl) (HA.out _) ?_; rintro e w5 ⟨rfl, k1⟩; have HK : Hid _ := HK.out.trans k1; have E0 : Hid _ := E0.out.calm k1; clear k1; refine ⟨_, rfl, E0.out, ?_⟩; simp only [Act.put, List.setIfInBounds_toArray, List.set_cons_zero, List.set_cons_succ]; (repeat (first | (refine Txt.tl_pure (v := ?_) (by rfl) ?_ ?_; rotate_left; (focus (intro _; go_simp; try with_reducible rfl)); simp only [Act.put, List.setIfInBounds_toArray, List.set_cons_zero, List.set_cons_succ]) | (refine Txt.tl_skip (by rfl) (by first | trivial | exact HS.out) ?_; simp only [Act.put, List.setIfInBounds_toArray, List.set_cons_zero, List.set_cons_succ]) | (refine Txt.tl_load (v := ?_) (by rfl) (by rfl) (by rfl) (by kernel_rfl) ?_ ?_; rotate_left; (focus (first | assumption | (go_simp; done) | (go_simp; with_reducible rfl))); simp only [Act.put, List.setIfInBounds_toArray, List.set_cons_zero, List.set_cons_succ]) | (refine Txt.tl_loadB (v := ?_) (by rfl) (by rfl) (by rfl) (by kernel_rfl) ?_ ?_; rotate_left; (focus assumption); simp only [Act.put, List.setIfInBounds_toArray, List.set_cons_zero, List.set_cons_succ]))); refine Txt.tl_nil ?_))
    go_ret
    exact ⟨rfl, Keep.below HK.out (Nat.le_refl _) (fun _ h => h.elim)⟩
  · have hgo' : 5000 < B.size ∨ (B.size ≤ 5000 ∧ 100 < T.size) := by omega
    clear hgo
    rcases hgo' with h | ⟨h, h'⟩
    all_goals
      go_enter Try.func6, Try.ntmps6
      go_wp2_with (first | (go_at_call 20; refine (HA.out _).mono ?_; rintro e w5 ⟨rfl, k1⟩; have K5 : Hid _ := k1; clear k1))
      go_ret
      exact ⟨rfl, Keep.below (((Keep.refl (fun _ => False) w).alloc _).trans K5.out) (Nat.le_refl _) (fun _ h => h.elim)⟩

set_option maxRecDepth 100000 in
theorem own : ownKnob Try.prog.godebug = none := by kernel_rfl
set_option maxRecDepth 100000 in
theorem laidOut : laidOutB Try.prog = true := by kernel_rfl
set_option maxRecDepth 100000 in
theorem contract (H : Type) (enc : TypeId × Value → H) (W : World) (base : Nat) (args : Array Value) (ds gs : List (DataW H)) (before : List MemPlace)
    (hval : ∀ (j : Nat) t v, Try.f6.params[j]? = some t → args[j]? = some v → Value.okWide Try.prog W .any base t v)
    (hW : DataW.Whole enc Try.prog Try.f6.params.toList Rows.entryPutsSpec.vars false W args.toList ds gs before) :
    Calls Try.prog 6 args W fun e W' => ∃ v, e = .returned v ∧ Rows.entryPutsSpec.post enc Try.prog Try.f6 false true false false W args v W' := by
  have hW' := hW
  obtain ⟨p, q, hA0, hV, rfl, hfz, hnd⟩ := hW
  have hA : DataW.TrodAll enc Try.prog W 0 (fun _ => true) true Try.f6.params.toList args.toList ds p := hA0
  rw [Try.params6] at hA hval
  obtain ⟨rfl, rfl⟩ := trodVars_none hV
  obtain ⟨v0, vs0, d0, ds0, p0, q0, hargs, rfl, rfl, h0, r0⟩ := trodAll_cons hA
  obtain ⟨rfl, rfl, rfl⟩ := trodAll_nil r0
  obtain rfl : args = #[v0] := by cases args; simp_all
  obtain ⟨x, rfl, f0, _⟩ := Opn.open_st Try.underlying43 rdE (hval 0 _ v0 rfl rfl) h0
  refine (walk x.1 x.2.1 x.2.2.1 x.2.2.2.1 W f0.2.2 f0.1 f0.2.1).mono fun e W' ⟨he, bel⟩ => ?_
  subst he
  exact ⟨_, rfl, Opn.law_post laidOut (by kernel_rfl) rfl Try.underlying4 rfl rfl hW' bel⟩
set_option maxRecDepth 100000 in
theorem lifted (os : Os) (started : os.Started) (H : Type) (enc : TypeId × Value → H) :
    ReturnsInHanded {} Try.checked os 6 .any (Rows.entryPutsSpec.pre6 enc Try.prog Try.f6 Rows.entryPutsRow.domain false) (Rows.entryPutsSpec.post enc Try.prog Try.f6 false true false false) := by
  refine returnsInHanded_of_change (C := Try.checked) own started (by kernel_rfl) Try.func6
    (ChangeSpec.witness6 (enc := enc) (C := Try.checked) false ⟨#[], #[.agg (ec 0 .empty .empty Z32).toArray], []⟩ 8 (by kernel_rfl) (by kernel_rfl) (by kernel_rfl) (by kernel_rfl)) ?_
  intro W base args ds gs before hval0 hW hcnd _
  exact contract H enc W base args ds gs before hval0 hW
theorem over : Rows.entryPutsRow.holds Try.pinned (OpenSpec.ofChange Rows.entryPutsSpec) :=
  OpenClaim.holds_of_wide 6 Try.f6 rfl rfl rfl rfl rfl rfl rfl ⟨rfl, rfl, rfl, rfl, rfl⟩ rfl rfl rfl rfl rfl (by kernel_rfl) Try.func6 (by kernel_rfl)
    (of_decide_eq_true (by kernel_rfl)) (by unfold Func.isWrapper; first | (rw [if_pos (by decide +kernel)]; kernel_rfl) | (rw [if_neg (by decide +kernel)]; exact ⟨rfl, rfl⟩))
    (fun os started H enc _ => lifted os started H enc)
theorem proved : Rows.EntryPutsSaid := over
end EnPuts
end Go.Proofs.Ytmnmemeldjbifaa
