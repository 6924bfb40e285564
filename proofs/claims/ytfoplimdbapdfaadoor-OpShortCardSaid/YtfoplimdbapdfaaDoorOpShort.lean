/-
  'petrellaw07.OpShort': no beginning of an operation's bytes is one, nor they with something behind them. For every input.
-/
import Derived.Test.YtfoplimdbapdfaaDoorOpBack
import Derived.SizedLaws
set_option linter.unusedVariables false
set_option linter.unusedSimpArgs false
namespace Go.Proofs.YtfoplimdbapdfaaDoor
open Go.RowKit
namespace OpShort
open Oct Ids Ox Go.ChangeShapes Go.WideShapes Go.ChangeAt
open Go.ChangeMaps (open_string shut_string)
open OpReads (sm_self)

theorem of_z {e0 : Int} {R : OO} (hR : R = oz e0) {w w' : World} {e : Ending} (h : OfPost R w e w') : ∃ va vc, e = .returned (.tuple #[.agg (oc 0 0 ByteArray.empty ByteArray.empty Z32 (.slice va 0 vc)).toArray, .int .i64 e0]) ∧ Own w' (.slice va 0 vc) [] ∧ Keep (fun _ => False) w w' := by
  subst hR
  obtain ⟨va, vc, h1, h2, h3, _⟩ := of_some h
  exact ⟨va, vc, h1, h2, h3⟩
theorem ext_dr (t : ByteArray) (k : Nat) : Seg.dr (t.extract 0 k) 0 = t.data.toList.take k := by
  have := Seg.ext_list t 0 k
  rw [Nat.zero_add] at this
  exact this
set_option maxRecDepth 100000 in
set_option maxHeartbeats 8000000 in
theorem walk (K N : Int) (Y V : ByteArray) (r : List UInt8) (a : Option Addr) (n c : Nat) (l : List (List UInt8)) (x : Int) (B : ByteArray) (w : World) (hT : TabP w) (hr : r.length = 32) (h1 : At w a n l) (hx0 : 0 ≤ x) (hx1 : x < 65536) (hB : B.size ≤ 140737488351232) :
    Calls Tryd.prog 4 #[.agg (oc K N Y V r (.slice a n c)).toArray, .int .u16 x, .string B] w fun e w' => e = .returned (.bool true) ∧ Below w.heap.size w w' := by
  have HK0 : Hid (Keep (fun _ => False) w (w.alloc (.cells (oc K N Y V r (.slice a n c)).toArray 27))) := (Keep.refl _ _).alloc _
  have E0 : Hid _ := OAt.new (K := K) (N := N) (Y := Y) (V := V) (rv := .slice a n c) w hr
  generalize hX : (oc K N Y V r (.slice a n c)).toArray = X at HK0 E0 ⊢
  have HX : Hid ((oc K N Y V r (.slice a n c)).toArray = X) := hX
  have A0 : Hid (At (w.alloc (.cells X 27)) a n l) := h1.calm HK0.out
  have HT : Hid (TabP (w.alloc (.cells X 27))) := hT.calm HK0.out
  have HK : Hid (Keep (fun _ => False) (w.alloc (.cells X 27)) (w.alloc (.cells X 27))) := (Keep.refl _ _)
  have Hr : Hid (r.length = 32) := hr
  have hm1 := h1.most
  have hln := h1.len
  have h32 := h1.size
  obtain ⟨g0, g1, g2, g3, g36⟩ := E0.out.cells
  clear hX
  by_cases hgo : n ≤ 60
  · by_cases hk : ck K N Y V r n l = 0
    · have hck : ck K N Y V r l.length l = 0 := by rw [hln]; exact hk
      have hlen := ob_len K N Y V r l hck hr h32
      obtain ⟨t, ht⟩ : ∃ t : ByteArray, (⟨(ob K N Y V r l).toArray⟩ : ByteArray) = t := ⟨_, rfl⟩
      have hts : t.size = (ob K N Y V r l).length := by rw [← ht, Byt.arr_size]
      have htd : t.data.toList = ob K N Y V r l := by rw [← ht]
      have ht1 : 1 ≤ t.size := by omega
      have ht2 : t.size ≤ 512 := by omega
      have htn : t.size ≠ 0 := by omega
      have tn1 := list_ne htn
      have tn2 := list_ne2 htn
      obtain ⟨k, hkx⟩ : ∃ k : Nat, (k : Int) = x % t.size := ⟨(x % t.size).toNat, Int.toNat_of_nonneg (Int.emod_nonneg _ (by omega))⟩
      have hkl : k < t.size := by have := Int.emod_lt_of_pos x (show (0 : Int) < t.size by omega); omega
      have HP1 : Hid (∀ w, TabP w → At w a n l → Calls Tryd.prog 15 #[.agg (oc K N Y V r (.slice a n c)).toArray] w fun e w' => e = .returned (.tuple #[.string t, .int .i64 0]) ∧ Keep (fun _ => False) w w') := fun w hT hA => ht ▸ put_ok w hT K N Y V r a n c l hr hA hk
      have HoK : Hid (∀ w, TabP w → Calls Tryd.prog 12 #[.string (t.extract 0 k)] w fun e w' => ∃ va vc, e = .returned (.tuple #[.agg (oc 0 0 ByteArray.empty ByteArray.empty Z32 (.slice va 0 vc)).toArray, .int .i64 2]) ∧ Own w' (.slice va 0 vc) [] ∧ Keep (fun _ => False) w w') := fun w hT =>
        (of_any_op w hT (t.extract 0 k) (by unfold maxLen; rw [ByteArray.size_extract]; omega)).mono fun e w' h => of_z (ofo_cut (t.extract 0 k) k K N Y V r l (by rw [ext_dr, htd]) (by omega) hck hr h32) h
      have hda : Seg.dr (t ++ B) 0 = ob K N Y V r l ++ B.data.toList := by
        show (t ++ B).data.toList = _
        rw [← htd]
        simp
      have hoB := ofo_seg (t ++ B) B.data.toList K N Y V r l hda hck hr h32
      have hrem : Int.tmod x (t.size : Int) = (k : Int) := by rw [hkx, Int.tmod_eq_emod_of_nonneg hx0]
      have hszB : (t ++ B).size ≤ maxLen := by rw [ByteArray.size_append]; unfold maxLen; omega
      by_cases hBe : B.size = 0
      · rw [if_pos (List.eq_nil_of_length_eq_zero (by rw [Seg.len_s]; exact hBe))] at hoB
        have HoB : Hid (∀ w, TabP w → Calls Tryd.prog 12 #[.string (t ++ B)] w (OfPost ⟨0, K, N, Y, V, r, l⟩ w)) := fun w hT => by
          have := of_any_op w hT (t ++ B) hszB
          rwa [hoB] at this
        have B0 : B.toList = [] := (emp_iff B).2 hBe
        have B1 : B.toList.isEmpty = true := by rw [B0]; rfl
        clear hoB hda htd hck hlen ht hts hkx hk hr h1 hT hln h32 hm1 hszB hBe htn
        go_enter Tryd.func4, Tryd.ntmps4
        go_wp2_with (first | (go_at_call 15; refine (HP1.out _ (HT.out.calm HK.out) (A0.out.calm HK.out)).mono ?_; rintro e w1 ⟨rfl, k1⟩; have HK : Hid _ := HK.out.trans k1; clear k1) | (go_at_call_has 12 (Value.string (t.extract 0 k)); refine (HoK.out _ (HT.out.calm HK.out)).mono ?_; rintro e w3 ⟨va2, vc2, rfl, h1, k1⟩; have HK : Hid _ := (HK.out.trans k1).alloc (.cells (oc 0 0 ByteArray.empty ByteArray.empty Z32 (.slice va2 0 vc2)).toArray 27); clear h1 k1) | (go_at_call_has 12 (Value.string (t ++ B)); refine (HoB.out _ (HT.out.calm HK.out)).mono ?_; rintro e w4 ⟨va3, vc3, rfl, h1, k1⟩; have HK : Hid _ := (HK.out.trans k1).alloc (.cells (oc 0 0 ByteArray.empty ByteArray.empty Z32 (.slice va3 0 vc3)).toArray 27); clear h1 k1) | (go_at_call_has 12 (Value.string (t ++ B)); refine ((HoB.out _ (HT.out.calm HK.out)).mono fun _ _ h => of_some h).mono ?_; rintro e w2 ⟨va, vc, rfl, h1, k1, _⟩; have HK : Hid _ := (HK.out.trans k1).alloc (.cells (oc K N Y V r (.slice va l.length vc)).toArray 27); clear h1 k1) | (refine St.wl_alloc tyO rfl rfl (by (try simp only [World.size_alloc]); rfl) ?_; simp only [Act.put, List.setIfInBounds_toArray, List.set_cons_zero, List.set_cons_succ]) | (refine St.wl_storeN tyO rfl rfl rfl rfl rfl (by (try simp only [World.size_alloc])) (show _ = Value.agg (oc 0 0 ByteArray.empty ByteArray.empty Z32 (.slice va3 0 vc3)).toArray from rfl) (oc_sz rfl) (oc_sz rfl) (oc_one _ _ _ _ _ _ _ _) ?_) | (refine St.wl_storeN tyO rfl rfl rfl rfl rfl (by (try simp only [World.size_alloc])) (show _ = Value.agg (oc K N Y V r (.slice va l.length vc)).toArray from rfl) (oc_sz Hr.out) (oc_sz rfl) (oc_one _ _ _ _ _ _ _ _) ?_) | (refine St.wl_storeN tyO rfl rfl rfl rfl rfl (by (try simp only [World.size_alloc])) (show _ = Value.agg (oc 0 0 ByteArray.empty ByteArray.empty Z32 (.slice va2 0 vc2)).toArray from rfl) (oc_sz rfl) (oc_sz rfl) (oc_one _ _ _ _ _ _ _ _) ?_) | ((with_reducible refine at_load 27 ?_); refine St.wl_load tyO (by rfl) rfl rfl (E0.out.calm HK.out).all (oc_len _ _ _ _ _ _ Hr.out) ?_; simp only [Act.put, List.setIfInBounds_toArray, List.set_cons_zero, List.set_cons_succ]) | (go_at_call 11; refine (awake_true _ (HT.out.calm HK.out)).mono ?_; rintro e w8 ⟨rfl, k1⟩; have HK : Hid _ := HK.out.trans k1; clear k1))
        go_ret
        exact ⟨rfl, Keep.below (HK0.out.trans HK.out) (Nat.le_refl _) (fun _ h => h.elim)⟩
      · rw [if_neg (fun e => hBe (by rw [← Seg.len_s, e]; rfl))] at hoB
        have HoB : Hid (∀ w, TabP w → Calls Tryd.prog 12 #[.string (t ++ B)] w fun e w' => ∃ va vc, e = .returned (.tuple #[.agg (oc 0 0 ByteArray.empty ByteArray.empty Z32 (.slice va 0 vc)).toArray, .int .i64 4]) ∧ Own w' (.slice va 0 vc) [] ∧ Keep (fun _ => False) w w') := fun w hT =>
          (of_any_op w hT (t ++ B) hszB).mono fun e w' h => of_z hoB h
        have B0 := list_ne hBe
        have B1 := list_ne2 hBe
        clear hoB hda htd hck hlen ht hts hkx hk hr h1 hT hln h32 hm1 hszB hBe htn
        go_enter Tryd.func4, Tryd.ntmps4
        go_wp2_with (first | (go_at_call 15; refine (HP1.out _ (HT.out.calm HK.out) (A0.out.calm HK.out)).mono ?_; rintro e w1 ⟨rfl, k1⟩; have HK : Hid _ := HK.out.trans k1; clear k1) | (go_at_call_has 12 (Value.string (t.extract 0 k)); refine (HoK.out _ (HT.out.calm HK.out)).mono ?_; rintro e w3 ⟨va2, vc2, rfl, h1, k1⟩; have HK : Hid _ := (HK.out.trans k1).alloc (.cells (oc 0 0 ByteArray.empty ByteArray.empty Z32 (.slice va2 0 vc2)).toArray 27); clear h1 k1) | (go_at_call_has 12 (Value.string (t ++ B)); refine (HoB.out _ (HT.out.calm HK.out)).mono ?_; rintro e w4 ⟨va3, vc3, rfl, h1, k1⟩; have HK : Hid _ := (HK.out.trans k1).alloc (.cells (oc 0 0 ByteArray.empty ByteArray.empty Z32 (.slice va3 0 vc3)).toArray 27); clear h1 k1) | (go_at_call_has 12 (Value.string (t ++ B)); refine ((HoB.out _ (HT.out.calm HK.out)).mono fun _ _ h => of_some h).mono ?_; rintro e w2 ⟨va, vc, rfl, h1, k1, _⟩; have HK : Hid _ := (HK.out.trans k1).alloc (.cells (oc K N Y V r (.slice va l.length vc)).toArray 27); clear h1 k1) | (refine St.wl_alloc tyO rfl rfl (by (try simp only [World.size_alloc]); rfl) ?_; simp only [Act.put, List.setIfInBounds_toArray, List.set_cons_zero, List.set_cons_succ]) | (refine St.wl_storeN tyO rfl rfl rfl rfl rfl (by (try simp only [World.size_alloc])) (show _ = Value.agg (oc 0 0 ByteArray.empty ByteArray.empty Z32 (.slice va3 0 vc3)).toArray from rfl) (oc_sz rfl) (oc_sz rfl) (oc_one _ _ _ _ _ _ _ _) ?_) | (refine St.wl_storeN tyO rfl rfl rfl rfl rfl (by (try simp only [World.size_alloc])) (show _ = Value.agg (oc K N Y V r (.slice va l.length vc)).toArray from rfl) (oc_sz Hr.out) (oc_sz rfl) (oc_one _ _ _ _ _ _ _ _) ?_) | (refine St.wl_storeN tyO rfl rfl rfl rfl rfl (by (try simp only [World.size_alloc])) (show _ = Value.agg (oc 0 0 ByteArray.empty ByteArray.empty Z32 (.slice va2 0 vc2)).toArray from rfl) (oc_sz rfl) (oc_sz rfl) (oc_one _ _ _ _ _ _ _ _) ?_) | ((with_reducible refine at_load 27 ?_); refine St.wl_load tyO (by rfl) rfl rfl (E0.out.calm HK.out).all (oc_len _ _ _ _ _ _ Hr.out) ?_; simp only [Act.put, List.setIfInBounds_toArray, List.set_cons_zero, List.set_cons_succ]) | (go_at_call 11; refine (awake_true _ (HT.out.calm HK.out)).mono ?_; rintro e w8 ⟨rfl, k1⟩; have HK : Hid _ := HK.out.trans k1; clear k1))
        go_ret
        exact ⟨rfl, Keep.below (HK0.out.trans HK.out) (Nat.le_refl _) (fun _ h => h.elim)⟩
    · obtain ⟨v, hv⟩ : ∃ v, ck K N Y V r n l = v := ⟨_, rfl⟩
      have HP1 : Hid (∀ w, TabP w → At w a n l → Calls Tryd.prog 15 #[.agg (oc K N Y V r (.slice a n c)).toArray] w fun e w' => e = .returned (.tuple #[.string ByteArray.empty, .int .i64 v]) ∧ Keep (fun _ => False) w w') := fun w hT hA => put_bad w hT K N Y V r a n c l hr hA v hv (by rw [← hv]; exact hk)
      have hv0 : (v != 0) = true := by rw [← hv]; simpa using hk
      clear hv hk hr h1 hT hln h32 hm1
      go_enter Tryd.func4, Tryd.ntmps4
      go_wp2_with (first | (go_at_call 15; refine (HP1.out _ (HT.out.calm HK.out) (A0.out.calm HK.out)).mono ?_; rintro e w1 ⟨rfl, k1⟩; have HK : Hid _ := HK.out.trans k1; clear k1) | (go_at_call_has 12 (Value.string (t.extract 0 k)); refine (HoK.out _ (HT.out.calm HK.out)).mono ?_; rintro e w3 ⟨va2, vc2, rfl, h1, k1⟩; have HK : Hid _ := (HK.out.trans k1).alloc (.cells (oc 0 0 ByteArray.empty ByteArray.empty Z32 (.slice va2 0 vc2)).toArray 27); clear h1 k1) | (go_at_call_has 12 (Value.string (t ++ B)); refine (HoB.out _ (HT.out.calm HK.out)).mono ?_; rintro e w4 ⟨va3, vc3, rfl, h1, k1⟩; have HK : Hid _ := (HK.out.trans k1).alloc (.cells (oc 0 0 ByteArray.empty ByteArray.empty Z32 (.slice va3 0 vc3)).toArray 27); clear h1 k1) | (go_at_call_has 12 (Value.string (t ++ B)); refine ((HoB.out _ (HT.out.calm HK.out)).mono fun _ _ h => of_some h).mono ?_; rintro e w2 ⟨va, vc, rfl, h1, k1, _⟩; have HK : Hid _ := (HK.out.trans k1).alloc (.cells (oc K N Y V r (.slice va l.length vc)).toArray 27); clear h1 k1) | (refine St.wl_alloc tyO rfl rfl (by (try simp only [World.size_alloc]); rfl) ?_; simp only [Act.put, List.setIfInBounds_toArray, List.set_cons_zero, List.set_cons_succ]) | (refine St.wl_storeN tyO rfl rfl rfl rfl rfl (by (try simp only [World.size_alloc])) (show _ = Value.agg (oc 0 0 ByteArray.empty ByteArray.empty Z32 (.slice va3 0 vc3)).toArray from rfl) (oc_sz rfl) (oc_sz rfl) (oc_one _ _ _ _ _ _ _ _) ?_) | (refine St.wl_storeN tyO rfl rfl rfl rfl rfl (by (try simp only [World.size_alloc])) (show _ = Value.agg (oc K N Y V r (.slice va l.length vc)).toArray from rfl) (oc_sz Hr.out) (oc_sz rfl) (oc_one _ _ _ _ _ _ _ _) ?_) | (refine St.wl_storeN tyO rfl rfl rfl rfl rfl (by (try simp only [World.size_alloc])) (show _ = Value.agg (oc 0 0 ByteArray.empty ByteArray.empty Z32 (.slice va2 0 vc2)).toArray from rfl) (oc_sz rfl) (oc_sz rfl) (oc_one _ _ _ _ _ _ _ _) ?_) | ((with_reducible refine at_load 27 ?_); refine St.wl_load tyO (by rfl) rfl rfl (E0.out.calm HK.out).all (oc_len _ _ _ _ _ _ Hr.out) ?_; simp only [Act.put, List.setIfInBounds_toArray, List.set_cons_zero, List.set_cons_succ]) | (go_at_call 11; refine (awake_true _ (HT.out.calm HK.out)).mono ?_; rintro e w8 ⟨rfl, k1⟩; have HK : Hid _ := HK.out.trans k1; clear k1))
      go_ret
      exact ⟨rfl, Keep.below (HK0.out.trans HK.out) (Nat.le_refl _) (fun _ h => h.elim)⟩
  · unfold maxLen at hm1
    have hgo' : 60 < n := by omega
    clear hgo hT hr h1 hln h32
    go_enter Tryd.func4, Tryd.ntmps4
    go_wp2_with (first | (go_at_call 11; refine (awake_true _ HT.out).mono ?_; rintro e w5 ⟨rfl, k1⟩; have HK : Hid _ := k1; clear k1))
    go_ret
    exact ⟨rfl, Keep.below (HK0.out.trans HK.out) (Nat.le_refl _) (fun _ h => h.elim)⟩

set_option maxRecDepth 100000 in
theorem own : ownKnob Tryd.prog.godebug = none := by kernel_rfl
set_option maxRecDepth 100000 in
theorem laidOut : laidOutB Tryd.prog = true := by kernel_rfl
set_option maxRecDepth 100000 in
theorem contract (H : Type) (enc : TypeId × Value → H) (W : World) (base : Nat) (args : Array Value) (ds gs : List (DataW H)) (before : List MemPlace)
    (hval : ∀ (j : Nat) t v, Tryd.f4.params[j]? = some t → args[j]? = some v → Value.okWide Tryd.prog W .any base t v)
    (hW : DataW.Whole enc Tryd.prog Tryd.f4.params.toList Rows.opShortSpec.vars false W args.toList ds gs before) (hL : laidMetH Tryd.prog Rows.opShortRow.laid W) (hWt : (DataW.weightsEach Tryd.prog (Tryd.f4.params.toList ++ Rows.opShortSpec.plain.varTypes Tryd.prog) (ds ++ gs)).all (· ≤ reachBytes) = true) :
    Calls Tryd.prog 4 args W fun e W' => ∃ v, e = .returned v ∧ Rows.opShortSpec.post enc Tryd.prog Tryd.f4 false true false false W args v W' := by
  have hW' := hW
  have hTab := Lad.parts_of hL
  obtain ⟨p, q, hA0, hV, rfl, hfz, hnd⟩ := hW
  have hA : DataW.TrodAll enc Tryd.prog W 0 (fun _ => true) true Tryd.f4.params.toList args.toList ds p := hA0
  rw [Tryd.params4] at hA hval hWt
  obtain ⟨rfl, rfl⟩ := trodVars_none hV
  obtain ⟨v0, vs0, d0, ds0, p0, q0, hargs, rfl, rfl, h0, r0⟩ := trodAll_cons hA
  obtain ⟨v1, vs1, d1, ds1, p1, q1, rfl, rfl, rfl, h1, r1⟩ := trodAll_cons r0
  obtain ⟨v2, vs2, d2, ds2, p2, q2, rfl, rfl, rfl, h2, r2⟩ := trodAll_cons r1
  obtain ⟨rfl, rfl, rfl⟩ := trodAll_nil r2
  obtain rfl : args = #[v0, v1, v2] := by cases args; simp_all
  obtain ⟨x, rfl, f0, _⟩ := Opn.open_st Tryd.underlying27 rdO (hval 0 _ v0 rfl rfl) h0
  obtain ⟨i, rfl, rfl, rfl, wi⟩ := open_int Tryd.underlying35 (hval 1 _ v1 rfl rfl) h1
  obtain ⟨s, rfl, rfl, rfl, hs⟩ := open_string Tryd.underlying9 (hval 2 _ v2 rfl rfl) h2
  have hi : 0 ≤ i ∧ i ≤ 65535 := by simpa [Lit.wf, IntKind.min, IntKind.max, IntKind.signed, IntKind.bits] using wi
  have hsz : s.data.toList.length ≤ reachBytes := sized_string hWt (j := 2) rfl rfl
  have hsz2 : s.size ≤ 140737488351232 := by rw [Seg.len_s] at hsz; exact hsz
  refine (walk x.1 x.2.1 x.2.2.1 x.2.2.2.1 x.2.2.2.2.1 x.2.2.2.2.2.1.a x.2.2.2.2.2.1.len x.2.2.2.2.2.1.cap x.2.2.2.2.2.1.els i s W hTab f0.1 f0.2 hi.1 (by omega) hsz2).mono fun e W' ⟨he, bel⟩ => ?_
  subst he
  exact ⟨_, rfl, Opn.law_post laidOut (by kernel_rfl) rfl Tryd.underlying4 rfl rfl hW' bel⟩
set_option maxRecDepth 100000 in
theorem lifted (os : Os) (started : os.Started) (H : Type) (enc : TypeId × Value → H) :
    ReturnsInHanded {} Tryd.checked os 4 .any (fun w args => (Rows.opShortSpec.pre enc Tryd.prog Tryd.f4 [] false w args ∧ laidMetH Tryd.prog Rows.opShortRow.laid w) ∧ sizedMet enc Tryd.prog Tryd.f4 (OpenSpec.ofChange Rows.opShortSpec) false w args)
      (Rows.opShortSpec.post enc Tryd.prog Tryd.f4 false true false false) := by
  refine returnsInHanded_of_change_and (C := Tryd.checked) (X := fun w _ => laidMetH Tryd.prog Rows.opShortRow.laid w) (fun _ _ _ hh h => h.of_heap hh) own started (by kernel_rfl) Tryd.func4
    (ChangeSpec.witness_shaped (enc := enc) (C := Tryd.checked) (os := os) (X := fun w _ => laidMetH Tryd.prog Rows.opShortRow.laid w) false (World.laidAll Tryd.prog os Rows.opShortRow.laid) #[.agg oz0, .int .u16 0, .string .empty] 8 (World.laidAll_os _ _ _)
      (World.shaped_of_ZipB (by kernel_rfl) (by kernel_rfl)) (by kernel_rfl) (by kernel_rfl) (by kernel_rfl)
      (by rw [MakeChecks.laidMetH_plain _ _ _ (by kernel_rfl)]; exact laidMet_laidAll _ (by kernel_rfl) (by kernel_rfl))) ?_
  intro W base args ds gs before hval0 hW _ hwt hL _
  exact contract H enc W base args ds gs before hval0 hW hL hwt
theorem over : Rows.opShortRow.holds Tryd.pinned (OpenSpec.ofChange Rows.opShortSpec) :=
  OpenClaim.holds_of_wide 4 Tryd.f4 rfl rfl rfl rfl rfl rfl rfl ⟨rfl, rfl, rfl, rfl, rfl⟩ rfl rfl rfl rfl rfl (by kernel_rfl) Tryd.func4 (by kernel_rfl)
    (of_decide_eq_true (by kernel_rfl)) (by unfold Func.isWrapper; first | (rw [if_pos (by decide +kernel)]; kernel_rfl) | (rw [if_neg (by decide +kernel)]; exact ⟨rfl, rfl⟩))
    (fun os started H enc _ => lifted os started H enc)
theorem proved : Rows.OpShortCardSaid :=
  Claim7.holds_tied_plain_at .later [] [.data] true _ false over (fun _ h => by cases h) (by kernel_rfl) (fun _ h => by cases h) opShort_row_tie rfl ⟨rfl, rfl⟩ (by kernel_rfl) rfl
    (fun f fn hf hfn => by
      obtain rfl : f = 4 := Option.some.inj ((show Tryd.prog.funcNamed "petrel/petrellaw07.OpShort" = some 4 by kernel_rfl).symm.trans hf) |>.symm
      obtain rfl : fn = Tryd.f4 := (Option.some.inj (Tryd.func4.symm.trans hfn)).symm
      exact ⟨by kernel_rfl, fun j t ht => by
        rw [Tryd.params4] at ht
        have hm : t ∈ [27, 35, 9] := by simpa using Array.mem_of_getElem? ht
        have hall : ([27, 35, 9].all fun u => !Tryd.prog.wantsStandIn u) = true := by kernel_rfl
        exact (show Tryd.prog.wantsStandIn t = false by simpa using List.all_eq_true.1 hall t hm)⟩)
    (by kernel_rfl)
end OpShort
end Go.Proofs.YtfoplimdbapdfaaDoor
