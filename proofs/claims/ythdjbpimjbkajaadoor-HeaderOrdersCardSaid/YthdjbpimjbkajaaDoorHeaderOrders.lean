/-
  'petrellaw08.HeaderOrders': the places of headers stand in an order, as the document says. For every input.
-/
import Derived.Test.YthdjbpimjbkajaaDoorHdO
import Derived.Test.YthdjbpimjbkajaaDoorOpnU
import Derived.Test.YthdjbpimjbkajaaDoorLad2
import Derived.Test.YthdjbpimjbkajaaDoorTie
import Derived.Test.YthdjbpimjbkajaaDoorCards
import Derived.SevenTiedAt
import Derived.Stop.Joined
set_option linter.unusedVariables false
set_option linter.unusedSimpArgs false
namespace Go.Proofs.YthdjbpimjbkajaaDoor
open Go.RowKit
namespace HeaderOrders
open Oct Ids Hd Go.ChangeShapes Go.WideShapes Go.ChangeAt

theorem walk (x y z : Int) (a b c : List UInt8) (w : World) (hT : Sha.TabF w ∧ Sha.TabK w) (ha : a.length = 32) (hb : b.length = 32) (hc : c.length = 32) :
    Calls Tryd.prog 3 #[.int .i64 x, .int .i64 y, .int .i64 z, idv a, idv b, idv c] w fun e w' => e = .returned (.bool true) ∧ Below w.heap.size w w' := by
  refine (orders_b x y z a b c ha hb hc w hT.1 hT.2 _ _ _ _ _ _ rfl rfl rfl rfl rfl rfl (ah_tot x a y b) ?_ ?_).mono ?_
  · cases h : ah x a y b with
    | false => rfl
    | true => rw [ah_anti _ _ _ _ h]; rfl
  · cases h : ah x a y b with
    | false => rfl
    | true =>
      cases h2 : ah y b z c with
      | false => rfl
      | true => rw [ah_trans _ _ _ _ _ _ h h2]; rfl
  · rintro e w' ⟨rfl, k⟩
    exact ⟨rfl, Keep.below k (Nat.le_refl _) (fun _ h => h.elim)⟩

set_option maxRecDepth 100000 in
theorem own : ownKnob Tryd.prog.godebug = none := by kernel_rfl
set_option maxRecDepth 100000 in
theorem laidOut : laidOutB Tryd.prog = true := by kernel_rfl
set_option maxRecDepth 100000 in
theorem contract (H : Type) (enc : TypeId × Value → H) (W : World) (base : Nat) (args : Array Value) (ds gs : List (DataW H)) (before : List MemPlace)
    (hval : ∀ (j : Nat) t v, Tryd.f3.params[j]? = some t → args[j]? = some v → Value.okWide Tryd.prog W .any base t v)
    (hW : DataW.Whole enc Tryd.prog Tryd.f3.params.toList Rows.headerOrdersSpec.vars false W args.toList ds gs before) (hL : laidMetH Tryd.prog Rows.headerOrdersRow.laid W) :
    Calls Tryd.prog 3 args W fun e W' => ∃ v, e = .returned v ∧ Rows.headerOrdersSpec.post enc Tryd.prog Tryd.f3 false true false false W args v W' := by
  have hW' := hW
  have hTab := Lad.sha_of hL
  obtain ⟨p, q, hA0, hV, rfl, hfz, hnd⟩ := hW
  have hA : DataW.TrodAll enc Tryd.prog W 0 (fun _ => true) true Tryd.f3.params.toList args.toList ds p := hA0
  rw [Tryd.params3] at hA hval
  obtain ⟨rfl, rfl⟩ := trodVars_none hV
  obtain ⟨v0, vs0, d0, ds0, p0, q0, hargs, rfl, rfl, h0, r0⟩ := trodAll_cons hA
  obtain ⟨v1, vs1, d1, ds1, p1, q1, rfl, rfl, rfl, h1, r1⟩ := trodAll_cons r0
  obtain ⟨v2, vs2, d2, ds2, p2, q2, rfl, rfl, rfl, h2, r2⟩ := trodAll_cons r1
  obtain ⟨v3, vs3, d3, ds3, p3, q3, rfl, rfl, rfl, h3, r3⟩ := trodAll_cons r2
  obtain ⟨v4, vs4, d4, ds4, p4, q4, rfl, rfl, rfl, h4, r4⟩ := trodAll_cons r3
  obtain ⟨v5, vs5, d5, ds5, p5, q5, rfl, rfl, rfl, h5, r5⟩ := trodAll_cons r4
  obtain ⟨rfl, rfl, rfl⟩ := trodAll_nil r5
  obtain rfl : args = #[v0, v1, v2, v3, v4, v5] := by cases args; simp_all
  obtain ⟨x, rfl, rfl, rfl, wf_x⟩ := open_int Tryd.underlying3 (hval 0 _ v0 rfl rfl) h0
  obtain ⟨y, rfl, rfl, rfl, wf_y⟩ := open_int Tryd.underlying3 (hval 1 _ v1 rfl rfl) h1
  obtain ⟨z, rfl, rfl, rfl, wf_z⟩ := open_int Tryd.underlying3 (hval 2 _ v2 rfl rfl) h2
  obtain ⟨a, rfl, la⟩ := Opn.open_id (hval 3 _ v3 rfl rfl) h3
  obtain ⟨b, rfl, lb⟩ := Opn.open_id (hval 4 _ v4 rfl rfl) h4
  obtain ⟨c, rfl, lc⟩ := Opn.open_id (hval 5 _ v5 rfl rfl) h5
  refine (walk x y z a b c W hTab la lb lc).mono fun e W' ⟨he, bel⟩ => ?_
  subst he
  exact ⟨_, rfl, Opn.law_post laidOut (by kernel_rfl) rfl Tryd.underlying4 rfl rfl hW' bel⟩
set_option maxRecDepth 100000 in
theorem lifted (os : Os) (started : os.Started) (H : Type) (enc : TypeId × Value → H) :
    ReturnsInHanded {} Tryd.checked os 3 .any (fun w args => (Rows.headerOrdersSpec.pre enc Tryd.prog Tryd.f3 [] false w args ∧ laidMetH Tryd.prog Rows.headerOrdersRow.laid w) ∧ sizedMet enc Tryd.prog Tryd.f3 (OpenSpec.ofChange Rows.headerOrdersSpec) false w args)
      (Rows.headerOrdersSpec.post enc Tryd.prog Tryd.f3 false true false false) := by
  refine returnsInHanded_of_change_and (C := Tryd.checked) (X := fun w _ => laidMetH Tryd.prog Rows.headerOrdersRow.laid w) (fun _ _ _ hh h => h.of_heap hh) own started (by kernel_rfl) Tryd.func3
    (ChangeSpec.witness_shaped (enc := enc) (C := Tryd.checked) (os := os) (X := fun w _ => laidMetH Tryd.prog Rows.headerOrdersRow.laid w) false (World.laidAll Tryd.prog os Rows.headerOrdersRow.laid) #[.int .i64 0, .int .i64 0, .int .i64 0, idv (List.replicate 32 0), idv (List.replicate 32 0), idv (List.replicate 32 0)] 8 (World.laidAll_os _ _ _)
      (World.shaped_of_ZipB (by kernel_rfl) (by kernel_rfl)) (by kernel_rfl) (by kernel_rfl) (by kernel_rfl)
      (by rw [MakeChecks.laidMetH_plain _ _ _ (by kernel_rfl)]; exact laidMet_laidAll _ (by kernel_rfl) (by kernel_rfl))) ?_
  intro W base args ds gs before hval0 hW _ _ hL _
  exact contract H enc W base args ds gs before hval0 hW hL
theorem over : Rows.headerOrdersRow.holds Tryd.pinned (OpenSpec.ofChange Rows.headerOrdersSpec) :=
  OpenClaim.holds_of_wide 3 Tryd.f3 rfl rfl rfl rfl rfl rfl rfl ⟨rfl, rfl, rfl, rfl, rfl⟩ rfl rfl rfl rfl rfl (by kernel_rfl) Tryd.func3 (by kernel_rfl)
    (of_decide_eq_true (by kernel_rfl)) (by unfold Func.isWrapper; first | (rw [if_pos (by decide +kernel)]; kernel_rfl) | (rw [if_neg (by decide +kernel)]; exact ⟨rfl, rfl⟩))
    (fun os started H enc _ => lifted os started H enc)
theorem proved : Rows.HeaderOrdersCardSaid :=
  Claim7.holds_tied_plain_at .later [] [.data, .data] true _ false over (fun _ h => by cases h) (by kernel_rfl) (fun _ h => by cases h) headerOrders_row_tie rfl ⟨rfl, rfl⟩ (by kernel_rfl) rfl
    (fun f fn hf hfn => by
      obtain rfl : f = 3 := Option.some.inj ((show Tryd.prog.funcNamed "petrel/petrellaw08.HeaderOrders" = some 3 by kernel_rfl).symm.trans hf) |>.symm
      obtain rfl : fn = Tryd.f3 := (Option.some.inj (Tryd.func3.symm.trans hfn)).symm
      exact ⟨by kernel_rfl, fun j t ht => by
        rw [Tryd.params3] at ht
        have hm : t ∈ [3, 3, 3, 23, 23, 23] := by simpa using Array.mem_of_getElem? ht
        have hall : ([3, 3, 3, 23, 23, 23].all fun u => !Tryd.prog.wantsStandIn u) = true := by kernel_rfl
        exact (show Tryd.prog.wantsStandIn t = false by simpa using List.all_eq_true.1 hall t hm)⟩)
    (by kernel_rfl)
end HeaderOrders
end Go.Proofs.YthdjbpimjbkajaaDoor
