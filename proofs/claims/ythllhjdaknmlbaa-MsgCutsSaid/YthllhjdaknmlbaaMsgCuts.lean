/-
  'petrellaw09.MsgCuts': any ids, cut into messages that may be: all of them, in order, none of these empty. For every input.
-/
import Derived.Test.YthllhjdaknmlbaaMcA
import Derived.Test.YthllhjdaknmlbaaGOp
set_option linter.unusedVariables false
set_option linter.unusedSimpArgs false
namespace Go.Proofs.Ythllhjdaknmlbaa
open Go.RowKit
namespace MsgCuts
open Oct Ids Mc Go.ChangeShapes Go.WideShapes Go.ChangeAt
open Ms hiding M
open Mem (M It blk ids rows)
theorem rdId : Opn.Rd Try.prog 41 32 (fun x : List UInt8 => x.map bv) (fun _ x => x.length = 32) (fun _ => 32) :=
  Opn.rd_bytes Try.underlying41 Try.underlying5 (by kernel_rfl) (by kernel_rfl)
theorem rdIdl : Opn.Rd Try.prog 22 1 (fun x : Opn.Sl (List UInt8) => [x.val]) (Opn.SlAt 32 (fun x => x.map bv) fun _ x => x.length = 32) (fun x => (x.els.map fun _ => 32).sum + 1) :=
  Opn.rd_slice Try.underlying22 (by kernel_rfl) (by omega) rdId
theorem at_of {W : World} {s : Opn.Sl (List UInt8)} (h : Opn.SlAt 32 (fun x => x.map bv) (fun _ x => x.length = 32) W s) : At W s.a s.len s.els := by
  obtain ⟨h1, h2, h3, h4⟩ := h
  refine ⟨h1, fun x hx => ?_, Nat.le_trans h2 h3, ?_⟩
  · rcases h4 with h4 | ⟨b, off, _, _, hel⟩
    · rw [h4] at h1
      rw [List.eq_nil_of_length_eq_zero h1] at hx
      cases hx
    · obtain ⟨i, hi⟩ := List.getElem?_of_mem hx
      exact (hel i x hi).2
  · exact h4.imp id fun ⟨b, off, ha, hb, hel⟩ => ⟨b, off, ha, hb, fun i x hi => (hel i x hi).1⟩
theorem flat_len {l : List (List UInt8)} {us : List (List (List UInt8))} (h : us.flatten = l) (i : Nat) : (us.take i).flatten.length ≤ l.length := by
  rw [← h]
  conv => rhs; rw [← List.take_append_drop i us, List.flatten_append, List.length_append]
  omega
set_option maxHeartbeats 8000000 in
set_option maxRecDepth 100000 in
theorem walk (K : Int) (a : Option Addr) (n c : Nat) (l : List (List UInt8)) (w : World) (h : At w a n l) (hnc : n ≤ c) :
    Calls Try.prog 3 #[.int .i64 K, .slice a n c] w fun e w' => e = .returned (.bool true) ∧ Below w.heap.size w w' := by
  have HA : Hid _ := h
  have hnm := h.most
  unfold maxLen at hnm
  clear h
  by_cases hgo : n ≤ 100
  · go_enter Try.func3, Try.ntmps3
    go_wp2_with (first | (go_at_call 5; refine (cut_any _ K a n c l HA.out hgo hnc).mono ?_; rintro e w1 ⟨v1, L1, rfl, hM1, hU1⟩; have K1 : Hid (Keep (fun _ => False) w w1) := hM1.keep; have R1 : Hid (Rdy K w1 v1 L1) := rdy_of hM1; have HU1 : Hid _ := hU1; clear hM1 hU1; obtain ⟨a1, c1, rfl, _⟩ := R1.out.1) | (go_at_call 6; refine (xcut_any _ K a n c l (HA.out.calm K1.out) hgo).mono ?_; rintro e w2 ⟨v2, L2, rfl, hM2, hU2⟩; have K2 : Hid (Keep (fun _ => False) w1 w2) := hM2.keep; have R2 : Hid (Rdy K w2 v2 L2) := rdy_of hM2; have HU2 : Hid _ := hU2; clear hM2 hU2; obtain ⟨a2, c2, rfl, _⟩ := R2.out.1; have hq : L2.length = L1.length := (by have := congrArg List.length (HU2.out.trans HU1.out.symm); simpa using this); rw [hq]))
    obtain ⟨q, hq1⟩ : ∃ q, L1.length = q := ⟨_, rfl⟩
    have hq2 : L2.length = q := hq.trans hq1
    rw [hq1] at R1
    rw [hq2] at R2
    rw [hq1]
    have hql : q ≤ 100 := by
      have := congrArg List.length HU1.out
      rw [List.length_map, hq1] at this
      rw [this]
      unfold cutL
      split
      · unfold chunks
        rw [List.length_map, List.length_range, HA.out.len]
        omega
      · exact Nat.zero_le _
    have HQ1 : Hid _ := hq1
    have HQ2 : Hid _ := hq2
    clear hq hq1 hq2
    go_loopw [7, 8] (fun s7 s8 wr => ∃ (i : Nat) (va : Value), i ≤ q ∧ s7 = va ∧ s8 = .int .i64 i ∧ M (fun _ => False) w2 wr [ids va ((cutL K l).take i).flatten]) (fun _ s8 _ => q - (intOf s8).toNat)
    case atStart => exact ⟨0, _, Nat.zero_le _, rfl, rfl, (Mem.M.start (fun _ => False) w2).nilI⟩
    case round =>
      obtain ⟨i, va, hi, rfl, rfl, hM⟩ := hrel
      have HM : Hid _ := hM
      clear hM
      by_cases hlt : i < q
      · obtain ⟨y, hy⟩ : ∃ y, L1[i]? = some y := ⟨_, List.getElem?_eq_getElem (by rw [HQ1.out]; exact hlt)⟩
        obtain ⟨z, hz⟩ : ∃ z, L2[i]? = some z := ⟨_, List.getElem?_eq_getElem (by rw [HQ2.out]; exact hlt)⟩
        have hyu : (cutL K l)[i]? = some y.u := by rw [← HU1.out, List.getElem?_map, hy]; rfl
        have hzu : (cutL K l)[i]? = some z.u := by rw [← HU2.out, List.getElem?_map, hz]; rfl
        have hyz : y.u = z.u := Option.some.inj (hyu.symm.trans hzu)
        have hmem := List.mem_of_getElem? hyu
        have hk1 : knd K = 1 := by
          unfold cutL at hmem
          split at hmem
          · assumption
          · cases hmem
        have hlen : 1 ≤ y.u.length ∧ y.u.length ≤ 16 := by
          unfold cutL at hmem
          rw [if_pos hk1] at hmem
          exact chunks_mem hmem
        have Ay : Hid (At w2 y.a y.n y.u) := (R1.out.calm K2.out).2 y (List.mem_of_getElem? hy)
        have Az : Hid (At w2 z.a z.n z.u) := R2.out.2 z (List.mem_of_getElem? hz)
        have hyn : y.n = y.u.length := Ay.out.len.symm
        have hchk : chk K y.n ByteArray.empty = 0 := chk_1 hk1 rfl (by omega)
        have hy0 : ((y.n : Int) == 0) = false := by rw [beq_eq_false_iff_ne]; omega
        obtain ⟨b1, o1, rfl, hb1, hr1⟩ : ∃ b off, a1 = some ⟨b, off, none⟩ ∧ b < w2.heap.size ∧ ∀ i x, L1[i]? = some x → w2.rangeAt b (off + i * 3) (encG K x) := by
          obtain ⟨⟨a', c', e, h1⟩, _⟩ := R1.out.calm K2.out
          cases e
          rcases h1.lay with e | e
          · have := (List.getElem?_eq_some_iff.1 hy).1
            omega
          · exact e
        obtain ⟨b2, o2, rfl, hb2, hr2⟩ : ∃ b off, a2 = some ⟨b, off, none⟩ ∧ b < w2.heap.size ∧ ∀ i x, L2[i]? = some x → w2.rangeAt b (off + i * 3) (encG K x) := by
          obtain ⟨⟨a', c', e, h1⟩, _⟩ := R2.out
          cases e
          rcases h1.lay with e | e
          · have := (List.getElem?_eq_some_iff.1 hz).1
            omega
          · exact e
        have CA : ∀ w3, Keep (fun _ => False) w2 w3 → w3.rangeAt b1 (o1 + i * 3) [.int .i64 K, .slice y.a y.n y.c, .string ByteArray.empty] := fun w3 k => k.range hb1 (fun h => h) (hr1 i y hy)
        have CB : ∀ w3, Keep (fun _ => False) w2 w3 → w3.rangeAt b2 (o2 + i * 3) [.int .i64 K, .slice z.a z.n z.c, .string ByteArray.empty] := fun w3 k => k.range hb2 (fun h => h) (hr2 i z hz)
        have CI : ∀ w3, Keep (fun _ => False) w2 w3 → w3.cell? ⟨b1, o1 + i * 3 + 1, none⟩ = some (.slice y.a y.n y.c) := fun w3 k => CA w3 k 1 _ rfl
        have Hyu : Hid _ := hyu
        have Hyz : Hid _ := hyz
        have Hchk : Hid _ := hchk
        have Hlen : Hid _ := hlen
        have HFl : Hid ((cutL K l).flatten = l) := (by unfold cutL; rw [if_pos hk1]; exact chunks_flat l)
        clear hyn hr1 hr2 hb1 hb2 hy hz hyu hzu hyz hmem hchk hlen hk1
        go_wp2
        refine Txt.wp_region_text (id := 11) (Keep (fun _ => False) w2) [0, 0, 0, 1, 0, 0, 0, 1, 4, 0, 0, 0, 0, 0, 1, 4, 0, 0, 0, 0, 0, 0, 0, 1, 0, 0, 0] (by kernel_rfl) (by kernel_rfl) HM.out.drew.keep ?_
        have HM : Hid _ := HM.out.drew
        (repeat (first | (refine Txt.tl_pure (v := ?_) (by rfl) ?_ ?_; rotate_left; (focus (intro _; go_simp; try with_reducible rfl)); simp only [Act.put, List.setIfInBounds_toArray, List.set_cons_zero, List.set_cons_succ]) | (refine Txt.tl_load (v := ?_) (by rfl) (by rfl) (by rfl) (by kernel_rfl) ?_ ?_; rotate_left; (focus (exact CI _ HM.out.keep)); simp only [Act.put, List.setIfInBounds_toArray, List.set_cons_zero, List.set_cons_succ]) | (refine Txt.tl_loadS (v := ?_) (by rfl) (by rfl) (by rfl) (by kernel_rfl) ?_ ?_; rotate_left; (focus (exact CI)); simp only [Act.put, List.setIfInBounds_toArray, List.set_cons_zero, List.set_cons_succ]) | (refine Txt.tl_rowN (n := 3) (ty := 28) (by rfl) (by rfl) (by rfl) (by first | exact CA _ HM.out.keep | exact CB _ HM.out.keep) (by kernel_rfl) (by rfl) ?_; simp only [Act.put, List.setIfInBounds_toArray, List.set_cons_zero, List.set_cons_succ]) | (refine Txt.tl_rowSN (n := 3) (ty := 28) (by rfl) (by rfl) (by rfl) (by first | exact CA | exact CB) (by kernel_rfl) (by rfl) ?_; simp only [Act.put, List.setIfInBounds_toArray, List.set_cons_zero, List.set_cons_succ]) | (refine Txt.tl_skip (by rfl) HM.out.keep ?_; simp only [Act.put, List.setIfInBounds_toArray, List.set_cons_zero, List.set_cons_succ])))
        refine Txt.tl_call Try.func7 (by kernel_rfl) (by kernel_rfl) (by rfl) (by rfl) (by rfl) (rsame_v _ K K y.a z.a y.n z.n y.c z.c ByteArray.empty ByteArray.empty y.u z.u true (Ay.out.calm HM.out.keep) (Az.out.calm HM.out.keep) (by rw [Hyz.out]; exact same_true _ _ _ _ _ _ _ _ _)) ?_
        rintro e w3 ⟨rfl, k3⟩
        have HM : Hid _ := HM.out.calm k3
        clear k3
        refine ⟨_, rfl, HM.out.keep, ?_⟩
        simp only [Act.put, List.setIfInBounds_toArray, List.set_cons_zero, List.set_cons_succ]
        (repeat (first | (refine Txt.tl_pure (v := ?_) (by rfl) ?_ ?_; rotate_left; (focus (intro _; go_simp; try with_reducible rfl)); simp only [Act.put, List.setIfInBounds_toArray, List.set_cons_zero, List.set_cons_succ]) | (refine Txt.tl_load (v := ?_) (by rfl) (by rfl) (by rfl) (by kernel_rfl) ?_ ?_; rotate_left; (focus (exact CI _ HM.out.keep)); simp only [Act.put, List.setIfInBounds_toArray, List.set_cons_zero, List.set_cons_succ]) | (refine Txt.tl_loadS (v := ?_) (by rfl) (by rfl) (by rfl) (by kernel_rfl) ?_ ?_; rotate_left; (focus (exact CI)); simp only [Act.put, List.setIfInBounds_toArray, List.set_cons_zero, List.set_cons_succ]) | (refine Txt.tl_rowN (n := 3) (ty := 28) (by rfl) (by rfl) (by rfl) (by first | exact CA _ HM.out.keep | exact CB _ HM.out.keep) (by kernel_rfl) (by rfl) ?_; simp only [Act.put, List.setIfInBounds_toArray, List.set_cons_zero, List.set_cons_succ]) | (refine Txt.tl_rowSN (n := 3) (ty := 28) (by rfl) (by rfl) (by rfl) (by first | exact CA | exact CB) (by kernel_rfl) (by rfl) ?_; simp only [Act.put, List.setIfInBounds_toArray, List.set_cons_zero, List.set_cons_succ]) | (refine Txt.tl_skip (by rfl) HM.out.keep ?_; simp only [Act.put, List.setIfInBounds_toArray, List.set_cons_zero, List.set_cons_succ])))
        refine Txt.tl_call Try.func8 (by kernel_rfl) (by kernel_rfl) (by rfl) (by rfl) (by rfl) (check_any _ K y.a y.n y.c ByteArray.empty) ?_
        rw [Hchk.out]
        rintro e w4 ⟨rfl, k4⟩
        have HM : Hid _ := HM.out.calm k4
        clear k4
        refine ⟨_, rfl, HM.out.keep, ?_⟩
        simp only [Act.put, List.setIfInBounds_toArray, List.set_cons_zero, List.set_cons_succ]
        (repeat (first | (refine Txt.tl_pure (v := ?_) (by rfl) ?_ ?_; rotate_left; (focus (intro _; go_simp; try with_reducible rfl)); simp only [Act.put, List.setIfInBounds_toArray, List.set_cons_zero, List.set_cons_succ]) | (refine Txt.tl_load (v := ?_) (by rfl) (by rfl) (by rfl) (by kernel_rfl) ?_ ?_; rotate_left; (focus (exact CI _ HM.out.keep)); simp only [Act.put, List.setIfInBounds_toArray, List.set_cons_zero, List.set_cons_succ]) | (refine Txt.tl_loadS (v := ?_) (by rfl) (by rfl) (by rfl) (by kernel_rfl) ?_ ?_; rotate_left; (focus (exact CI)); simp only [Act.put, List.setIfInBounds_toArray, List.set_cons_zero, List.set_cons_succ]) | (refine Txt.tl_rowN (n := 3) (ty := 28) (by rfl) (by rfl) (by rfl) (by first | exact CA _ HM.out.keep | exact CB _ HM.out.keep) (by kernel_rfl) (by rfl) ?_; simp only [Act.put, List.setIfInBounds_toArray, List.set_cons_zero, List.set_cons_succ]) | (refine Txt.tl_rowSN (n := 3) (ty := 28) (by rfl) (by rfl) (by rfl) (by first | exact CA | exact CB) (by kernel_rfl) (by rfl) ?_; simp only [Act.put, List.setIfInBounds_toArray, List.set_cons_zero, List.set_cons_succ]) | (refine Txt.tl_skip (by rfl) HM.out.keep ?_; simp only [Act.put, List.setIfInBounds_toArray, List.set_cons_zero, List.set_cons_succ])))
        refine Txt.tl_nil ?_
        have ci := CI _ HM.out.keep
        clear CI CA CB
        go_wp2_with (first | (refine wl_appR rfl rfl rfl (HM.out.get 0 rfl) rfl (Ay.out.calm HM.out.keep) (by have h1 := flat_len HFl.out i; rw [HA.out.len] at h1; have h2 := Ay.out.len; have h3 := Hlen.out; omega) ?_; intro v6 w6 h6 k6 g6; have HM : Hid _ := HM.out.appI 0 rfl h6 k6 g6; clear h6 k6 g6; simp only [Act.put, List.setIfInBounds_toArray, List.set_cons_zero, List.set_cons_succ]))
        go_roundw
        case rel =>
          refine ⟨i + 1, _, by omega, rfl, by go_num, ?_⟩
          rw [List.take_add_one, Hyu.out, List.flatten_append]
          have h := HM.out
          simpa using h
        case measure => simp [intOf]; omega
      · obtain rfl : i = q := by omega
        have hlq : (cutL K l).length = i := by
          have := congrArg List.length HU1.out
          rw [List.length_map, HQ1.out] at this
          exact this.symm
        rw [List.take_of_length_le (by rw [hlq]; exact Nat.le_refl _)] at HM
        by_cases h0 : i = 0
        · subst h0
          go_wp2_with (first | (go_at_call 4; refine (awake9 _).mono ?_; rintro e w5 ⟨rfl, k1⟩; have HM : Hid _ := HM.out.calm k1; clear k1))
          go_ret
          exact ⟨rfl, Keep.below ((K1.out.trans K2.out).trans HM.out.keep) (Nat.le_refl _) (fun _ h => h.elim)⟩
        · have hfl : (cutL K l).flatten = l := by
            unfold cutL
            split
            · exact chunks_flat l
            · rename_i hk
              unfold cutL at hlq
              rw [if_neg hk] at hlq
              exact absurd hlq.symm h0
          rw [hfl] at HM
          obtain ⟨ax, cx, rfl, hat, _⟩ := (show Ids.Own _ _ _ from HM.out.get 0 rfl).at
          have HT : Hid _ := hat
          have hi0 : ((i : Int) == 0) = false := by rw [beq_eq_false_iff_ne]; omega
          clear hat hlq hfl
          go_wp2_with (first | (go_at_call 4; refine (awake9 _).mono ?_; rintro e w5 ⟨rfl, k1⟩; have HM : Hid _ := HM.out.calm k1; clear k1) | (go_at_call 7; refine (rsame_v _ 0 0 ax a _ n cx c ByteArray.empty ByteArray.empty l l true HT.out (HA.out.calm ((K1.out.trans K2.out).trans HM.out.keep)) (same_true _ _ _ _ _ _ _ _ _)).mono ?_; rintro e w6 ⟨rfl, k1⟩; have HM : Hid _ := HM.out.calm k1; clear k1))
          go_ret
          exact ⟨rfl, Keep.below ((K1.out.trans K2.out).trans HM.out.keep) (Nat.le_refl _) (fun _ h => h.elim)⟩
  · go_enter Try.func3, Try.ntmps3
    go_wp2_with (first | (go_at_call 4; refine (awake9 _).mono ?_; rintro e w5 ⟨rfl, k1⟩; have K5 : Hid _ := k1; clear k1))
    go_ret
    exact ⟨rfl, Keep.below K5.out (Nat.le_refl _) (fun _ h => h.elim)⟩
set_option maxRecDepth 100000 in
theorem own : ownKnob Try.prog.godebug = none := by kernel_rfl
set_option maxRecDepth 100000 in
theorem laidOut : laidOutB Try.prog = true := by kernel_rfl
set_option maxRecDepth 100000 in
theorem contract (H : Type) (enc : TypeId × Value → H) (W : World) (base : Nat) (args : Array Value) (ds gs : List (DataW H)) (before : List MemPlace)
    (hval : ∀ (j : Nat) t v, Try.f3.params[j]? = some t → args[j]? = some v → Value.okWide Try.prog W .any base t v)
    (hW : DataW.Whole enc Try.prog Try.f3.params.toList Rows.msgCutsSpec.vars false W args.toList ds gs before) :
    Calls Try.prog 3 args W fun e W' => ∃ v, e = .returned v ∧ Rows.msgCutsSpec.post enc Try.prog Try.f3 false true false false W args v W' := by
  have hW' := hW
  obtain ⟨p, q, hA0, hV, rfl, hfz, hnd⟩ := hW
  have hA : DataW.TrodAll enc Try.prog W 0 (fun _ => true) true Try.f3.params.toList args.toList ds p := hA0
  rw [Try.params3] at hA hval
  obtain ⟨rfl, rfl⟩ := trodVars_none hV
  obtain ⟨v0, vs0, d0, ds0, p0, q0, hargs, rfl, rfl, h0, r0⟩ := trodAll_cons hA
  obtain ⟨v1, vs1, d1, ds1, p1, q1, rfl, rfl, rfl, h1, r1⟩ := trodAll_cons r0
  obtain ⟨rfl, rfl, rfl⟩ := trodAll_nil r1
  obtain rfl : args = #[v0, v1] := by cases args; simp_all
  obtain ⟨q, rfl, rfl, rfl, hq⟩ := open_int Try.underlying3 (hval 0 _ v0 rfl rfl) h0
  obtain ⟨s, rfl, hs, _⟩ := Opn.open_sl Try.underlying22 rdIdl (hval 1 _ v1 rfl rfl) h1
  refine (walk q s.a s.len s.cap s.els W (at_of hs) hs.2.1).mono fun e W' ⟨he, bel⟩ => ?_
  subst he
  exact ⟨_, rfl, Opn.law_post laidOut (by kernel_rfl) rfl Try.underlying4 rfl rfl hW' bel⟩
set_option maxRecDepth 100000 in
theorem lifted (os : Os) (started : os.Started) (H : Type) (enc : TypeId × Value → H) :
    ReturnsInHanded {} Try.checked os 3 .any (Rows.msgCutsSpec.pre6 enc Try.prog Try.f3 Rows.msgCutsRow.domain false) (Rows.msgCutsSpec.post enc Try.prog Try.f3 false true false false) := by
  refine returnsInHanded_of_change (C := Try.checked) own started (by kernel_rfl) Try.func3
    (ChangeSpec.witness6 (enc := enc) (C := Try.checked) false ⟨#[], #[.int .i64 0, .slice none 0 0], []⟩ 8 (by kernel_rfl) (by kernel_rfl) (by kernel_rfl) (by kernel_rfl)) ?_
  intro W base args ds gs before hval0 hW hcnd _
  exact contract H enc W base args ds gs before hval0 hW
theorem over : Rows.msgCutsRow.holds Try.pinned (OpenSpec.ofChange Rows.msgCutsSpec) :=
  OpenClaim.holds_of_wide 3 Try.f3 rfl rfl rfl rfl rfl rfl rfl ⟨rfl, rfl, rfl, rfl, rfl⟩ rfl rfl rfl rfl rfl (by kernel_rfl) Try.func3 (by kernel_rfl)
    (of_decide_eq_true (by kernel_rfl)) (by unfold Func.isWrapper; first | (rw [if_pos (by decide +kernel)]; kernel_rfl) | (rw [if_neg (by decide +kernel)]; exact ⟨rfl, rfl⟩))
    (fun os started H enc _ => lifted os started H enc)
theorem proved : Rows.MsgCutsSaid := over
end MsgCuts
end Go.Proofs.Ythllhjdaknmlbaa
