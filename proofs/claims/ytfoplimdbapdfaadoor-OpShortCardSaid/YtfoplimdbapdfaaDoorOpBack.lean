/-
  'petrellaw07.OpBack': what was put is read as it was; what was read is put as it was. For every input.
-/
import Derived.Test.YtfoplimdbapdfaaDoorOpReads
import Derived.Test.YtfoplimdbapdfaaDoorOxL
set_option linter.unusedVariables false
set_option linter.unusedSimpArgs false
namespace Go.Proofs.YtfoplimdbapdfaaDoor
open Go.RowKit
namespace OpBack
open Oct Ids Ox Go.ChangeShapes Go.WideShapes Go.ChangeAt
open Go.ChangeMaps (open_string shut_string)
open OpReads (sm_self)

theorem at0 (w : World) : At w none 0 [] := ⟨rfl, by simp, Nat.zero_le _, .inl rfl⟩
set_option maxRecDepth 100000 in
set_option maxHeartbeats 8000000 in
theorem walk (K N : Int) (Y V : ByteArray) (r : List UInt8) (a : Option Addr) (n c : Nat) (l : List (List UInt8)) (s : ByteArray) (w : World) (hT : TabP w) (hr : r.length = 32) (h1 : At w a n l) (hs : s.size ≤ maxLen) :
    Calls Tryd.prog 6 #[.agg (oc K N Y V r (.slice a n c)).toArray, .string s] w fun e w' => e = .returned (.bool true) ∧ Below w.heap.size w w' := by
  have HK0 : Hid (Keep (fun _ => False) w (w.alloc (.cells (oc K N Y V r (.slice a n c)).toArray 27))) := (Keep.refl _ _).alloc _
  have E0 : Hid _ := OAt.new (K := K) (N := N) (Y := Y) (V := V) (rv := .slice a n c) w hr
  generalize hX : (oc K N Y V r (.slice a n c)).toArray = X at HK0 E0 ⊢
  obtain ⟨W0, hW0⟩ : ∃ W0, w.alloc (.cells X 27) = W0 := ⟨_, rfl⟩
  have HX : Hid ((oc K N Y V r (.slice a n c)).toArray = X) := hX
  have A0 : Hid (At (w.alloc (.cells X 27)) a n l) := h1.calm HK0.out
  have HT : Hid (TabP (w.alloc (.cells X 27))) := hT.calm HK0.out
  have HK : Hid (Keep (fun _ => False) (w.alloc (.cells X 27)) (w.alloc (.cells X 27))) := (Keep.refl _ _)
  have Hr : Hid (r.length = 32) := hr
  have hm1 := h1.most
  have hln := h1.len
  have h32 := h1.size
  obtain ⟨g0, g1, g2, g3, g36⟩ := E0.out.cells
  clear hX hW0
  by_cases hgo : n ≤ 60 ∧ s.size ≤ 2000
  · obtain ⟨g60, g61⟩ := hgo
    have hrl : (ofo s).r.length = 32 := ofo_r s
    by_cases he : (ofo s).e = 0
    · obtain ⟨hc2, hb2⟩ := ob_ofo s he
      obtain ⟨R, hR⟩ : ∃ R, ofo s = R := ⟨_, rfl⟩
      have HoS : Hid (∀ w, TabP w → Calls Tryd.prog 12 #[.string s] w (OfPost R w)) := fun w hT => hR ▸ of_any_op w hT s hs
      rw [hR] at he hc2 hb2 hrl
      clear hR
      obtain ⟨e0, K2, N2, Y2, V2, r2, l2⟩ := R
      simp only at he hc2 hb2 hrl
      subst he
      have Hr2 : Hid (r2.length = 32) := hrl
      have HP2 : Hid (∀ w va vc, TabP w → At w va l2.length l2 → Calls Tryd.prog 15 #[.agg (oc K2 N2 Y2 V2 r2 (.slice va l2.length vc)).toArray] w fun e w' => e = .returned (.tuple #[.string s, .int .i64 0]) ∧ Keep (fun _ => False) w w') := fun w va vc hT hA => by
        have := put_ok w hT K2 N2 Y2 V2 r2 va l2.length vc l2 hrl hA hc2
        rwa [hb2] at this
      have hbl := bl_ne (ck_ok hc2).1
      obtain ⟨b2, hb⟩ : ∃ b, bl K2 = b := ⟨_, rfl⟩
      rw [hb] at hbl
      have Hb2 : Hid _ := hb
      clear hc2 hb2 hrl hb
      by_cases hk : ck K N Y V r n l = 0
      · skip
        have hck : ck K N Y V r l.length l = 0 := by rw [hln]; exact hk
        have hlen := ob_len K N Y V r l hck hr h32
        obtain ⟨t, ht⟩ : ∃ t : ByteArray, (⟨(ob K N Y V r l).toArray⟩ : ByteArray) = t := ⟨_, rfl⟩
        have htz : t.size ≤ 512 := by rw [← ht, Byt.arr_size]; exact hlen.2
        have HP1 : Hid (∀ w, TabP w → At w a n l → Calls Tryd.prog 15 #[.agg (oc K N Y V r (.slice a n c)).toArray] w fun e w' => e = .returned (.tuple #[.string t, .int .i64 0]) ∧ Keep (fun _ => False) w w') := fun w hT hA => ht ▸ put_ok w hT K N Y V r a n c l hr hA hk
        have HoT : Hid (∀ w, TabP w → Calls Tryd.prog 12 #[.string t] w (OfPost ⟨0, K, N, Y, V, r, l⟩ w)) := fun w hT => by
          have := of_any_op w hT t (by unfold maxLen; omega)
          rwa [← ht, ofo_ob K N Y V r l hck hr h32, ht] at this
        clear hck hlen ht
        clear hk hr h1 hs hT hln h32 hm1
        go_enter Tryd.func6, Tryd.ntmps6
        go_wp2_with (first | (go_at_call_has 15 (Value.agg (oc K2 N2 Y2 V2 r2 (Value.slice va2 l2.length vc2)).toArray); refine (HP2.out _ va2 vc2 (HT.out.calm HK.out) A2.out).mono ?_; rintro e w4 ⟨rfl, k1⟩; have HK : Hid _ := HK.out.trans k1; have E2 : Hid _ := E2.out.calm k1; clear k1; obtain ⟨q0, _⟩ := E2.out.cells) | (go_at_call 15; refine (HP1.out _ (HT.out.calm HK.out) (A0.out.calm HK.out)).mono ?_; rintro e w1 ⟨rfl, k1⟩; have HK : Hid _ := HK.out.trans k1; clear k1) | (go_at_call_has 12 (Value.string s); refine ((HoS.out _ (HT.out.calm HK.out)).mono fun _ _ h => of_some h).mono ?_; rintro e w3 ⟨va2, vc2, rfl, h1, k1, _⟩; have A2 : Hid _ := (ids_own h1).calm ((Keep.refl _ _).alloc (.cells (oc K2 N2 Y2 V2 r2 (.slice va2 l2.length vc2)).toArray 27)); have E2 : Hid _ := OAt.new (K := K2) (N := N2) (Y := Y2) (V := V2) (rv := .slice va2 l2.length vc2) w3 Hr2.out; have HK : Hid _ := (HK.out.trans k1).alloc (.cells (oc K2 N2 Y2 V2 r2 (.slice va2 l2.length vc2)).toArray 27); clear h1 k1) | (go_at_call_has 12 (Value.string s); refine (HoZ.out _ (HT.out.calm HK.out)).mono ?_; rintro e w3 ⟨va2, vc2, rfl, h1, k1⟩; have A2 : Hid (At _ va2 0 []) := (ids_own (l := []) h1).calm ((Keep.refl _ _).alloc (.cells (oc 0 0 ByteArray.empty ByteArray.empty Z32 (.slice va2 0 vc2)).toArray 27)); have E2 : Hid _ := OAt.new (K := 0) (N := 0) (Y := ByteArray.empty) (V := ByteArray.empty) (rv := .slice va2 0 vc2) w3 (rfl : Z32.length = 32); have HK : Hid _ := (HK.out.trans k1).alloc (.cells (oc 0 0 ByteArray.empty ByteArray.empty Z32 (.slice va2 0 vc2)).toArray 27); clear h1 k1) | (go_at_call 12; refine ((HoT.out _ (HT.out.calm HK.out)).mono fun _ _ h => of_some h).mono ?_; rintro e w2 ⟨va, vc, rfl, h1, k1, _⟩; have A1 : Hid _ := (ids_own h1).calm ((Keep.refl _ _).alloc (.cells (oc K N Y V r (.slice va l.length vc)).toArray 27)); have E1 : Hid _ := OAt.new (K := K) (N := N) (Y := Y) (V := V) (rv := .slice va l.length vc) w2 Hr.out; have HK : Hid _ := (HK.out.trans k1).alloc (.cells (oc K N Y V r (.slice va l.length vc)).toArray 27); clear h1 k1) | (refine St.wl_alloc tyO rfl rfl (by (try simp only [World.size_alloc]); rfl) ?_; simp only [Act.put, List.setIfInBounds_toArray, List.set_cons_zero, List.set_cons_succ]) | (refine St.wl_storeN tyO rfl rfl rfl rfl rfl (by (try simp only [World.size_alloc])) (show _ = Value.agg (oc K N Y V r (.slice va l.length vc)).toArray from rfl) (oc_sz Hr.out) (oc_sz rfl) (oc_one _ _ _ _ _ _ _ _) ?_) | (refine St.wl_storeN tyO rfl rfl rfl rfl rfl (by (try simp only [World.size_alloc])) (show _ = Value.agg (oc K2 N2 Y2 V2 r2 (.slice va2 l2.length vc2)).toArray from rfl) (oc_sz Hr2.out) (oc_sz rfl) (oc_one _ _ _ _ _ _ _ _) ?_) | (refine St.wl_storeN tyO rfl rfl rfl rfl rfl (by (try simp only [World.size_alloc])) (show _ = Value.agg (oc 0 0 ByteArray.empty ByteArray.empty Z32 (.slice va2 0 vc2)).toArray from rfl) (oc_sz rfl) (oc_sz rfl) (oc_one _ _ _ _ _ _ _ _) ?_) | (refine St.wl_buildV (T := 27) (parts := #[]) rfl rfl (cs := oz0) (by kernel_rfl) ?_; simp only [Act.put, List.setIfInBounds_toArray, List.set_cons_zero, List.set_cons_succ]) | ((with_reducible refine at_load 27 ?_); first | (refine St.wl_load tyO (by rfl) rfl rfl (E0.out.calm HK.out).all (oc_len _ _ _ _ _ _ Hr.out) ?_; simp only [Act.put, List.setIfInBounds_toArray, List.set_cons_zero, List.set_cons_succ]) | (refine St.wl_load tyO (by rfl) rfl rfl E1.out.all (oc_len _ _ _ _ _ _ Hr.out) ?_; simp only [Act.put, List.setIfInBounds_toArray, List.set_cons_zero, List.set_cons_succ]) | (refine St.wl_load tyO (by rfl) rfl rfl E2.out.all (oc_len _ _ _ _ _ _ Hr2.out) ?_; simp only [Act.put, List.setIfInBounds_toArray, List.set_cons_zero, List.set_cons_succ]) | (refine St.wl_load tyO (by rfl) rfl rfl E2.out.all (oc_len _ _ _ _ _ _ rfl) ?_; simp only [Act.put, List.setIfInBounds_toArray, List.set_cons_zero, List.set_cons_succ])) | (go_at_call_has 19 (Value.agg oz0); refine (same_o _ 0 0 0 0 ByteArray.empty ByteArray.empty ByteArray.empty ByteArray.empty Z32 Z32 va2 none 0 vc2 0 0 [] [] rfl rfl A2.out (at0 _) true (sm_self _ _ _ _ _ _)).mono ?_; rintro e w6 ⟨rfl, k1⟩; have HK : Hid _ := HK.out.trans k1; clear k1) | (go_at_call 19; refine (same_o _ K N K N Y V Y V r r a va n c l.length vc l l Hr.out Hr.out (A0.out.calm HK.out) A1.out true (sm_self _ _ _ _ _ _)).mono ?_; rintro e w6 ⟨rfl, k1⟩; have HK : Hid _ := HK.out.trans k1; clear k1) | (go_at_call 20; refine (belongs_any _ K2 b2 Hb2.out).mono ?_; rintro e w7 ⟨rfl, rfl⟩) | (go_at_call 11; refine (awake_true _ (HT.out.calm HK.out)).mono ?_; rintro e w8 ⟨rfl, k1⟩; have HK : Hid _ := HK.out.trans k1; clear k1))
        go_ret
        exact ⟨rfl, Keep.below (HK0.out.trans HK.out) (Nat.le_refl _) (fun _ h => h.elim)⟩
      · skip
        obtain ⟨v, hv⟩ : ∃ v, ck K N Y V r n l = v := ⟨_, rfl⟩
        have HP1 : Hid (∀ w, TabP w → At w a n l → Calls Tryd.prog 15 #[.agg (oc K N Y V r (.slice a n c)).toArray] w fun e w' => e = .returned (.tuple #[.string ByteArray.empty, .int .i64 v]) ∧ Keep (fun _ => False) w w') := fun w hT hA => put_bad w hT K N Y V r a n c l hr hA v hv (by rw [← hv]; exact hk)
        have hv0 : (v == 0) = false := by rw [← hv]; simpa using hk
        clear hv
        clear hk hr h1 hs hT hln h32 hm1
        go_enter Tryd.func6, Tryd.ntmps6
        go_wp2_with (first | (go_at_call_has 15 (Value.agg (oc K2 N2 Y2 V2 r2 (Value.slice va2 l2.length vc2)).toArray); refine (HP2.out _ va2 vc2 (HT.out.calm HK.out) A2.out).mono ?_; rintro e w4 ⟨rfl, k1⟩; have HK : Hid _ := HK.out.trans k1; have E2 : Hid _ := E2.out.calm k1; clear k1; obtain ⟨q0, _⟩ := E2.out.cells) | (go_at_call 15; refine (HP1.out _ (HT.out.calm HK.out) (A0.out.calm HK.out)).mono ?_; rintro e w1 ⟨rfl, k1⟩; have HK : Hid _ := HK.out.trans k1; clear k1) | (go_at_call_has 12 (Value.string s); refine ((HoS.out _ (HT.out.calm HK.out)).mono fun _ _ h => of_some h).mono ?_; rintro e w3 ⟨va2, vc2, rfl, h1, k1, _⟩; have A2 : Hid _ := (ids_own h1).calm ((Keep.refl _ _).alloc (.cells (oc K2 N2 Y2 V2 r2 (.slice va2 l2.length vc2)).toArray 27)); have E2 : Hid _ := OAt.new (K := K2) (N := N2) (Y := Y2) (V := V2) (rv := .slice va2 l2.length vc2) w3 Hr2.out; have HK : Hid _ := (HK.out.trans k1).alloc (.cells (oc K2 N2 Y2 V2 r2 (.slice va2 l2.length vc2)).toArray 27); clear h1 k1) | (go_at_call_has 12 (Value.string s); refine (HoZ.out _ (HT.out.calm HK.out)).mono ?_; rintro e w3 ⟨va2, vc2, rfl, h1, k1⟩; have A2 : Hid (At _ va2 0 []) := (ids_own (l := []) h1).calm ((Keep.refl _ _).alloc (.cells (oc 0 0 ByteArray.empty ByteArray.empty Z32 (.slice va2 0 vc2)).toArray 27)); have E2 : Hid _ := OAt.new (K := 0) (N := 0) (Y := ByteArray.empty) (V := ByteArray.empty) (rv := .slice va2 0 vc2) w3 (rfl : Z32.length = 32); have HK : Hid _ := (HK.out.trans k1).alloc (.cells (oc 0 0 ByteArray.empty ByteArray.empty Z32 (.slice va2 0 vc2)).toArray 27); clear h1 k1) | (go_at_call 12; refine ((HoT.out _ (HT.out.calm HK.out)).mono fun _ _ h => of_some h).mono ?_; rintro e w2 ⟨va, vc, rfl, h1, k1, _⟩; have A1 : Hid _ := (ids_own h1).calm ((Keep.refl _ _).alloc (.cells (oc K N Y V r (.slice va l.length vc)).toArray 27)); have E1 : Hid _ := OAt.new (K := K) (N := N) (Y := Y) (V := V) (rv := .slice va l.length vc) w2 Hr.out; have HK : Hid _ := (HK.out.trans k1).alloc (.cells (oc K N Y V r (.slice va l.length vc)).toArray 27); clear h1 k1) | (refine St.wl_alloc tyO rfl rfl (by (try simp only [World.size_alloc]); rfl) ?_; simp only [Act.put, List.setIfInBounds_toArray, List.set_cons_zero, List.set_cons_succ]) | (refine St.wl_storeN tyO rfl rfl rfl rfl rfl (by (try simp only [World.size_alloc])) (show _ = Value.agg (oc K N Y V r (.slice va l.length vc)).toArray from rfl) (oc_sz Hr.out) (oc_sz rfl) (oc_one _ _ _ _ _ _ _ _) ?_) | (refine St.wl_storeN tyO rfl rfl rfl rfl rfl (by (try simp only [World.size_alloc])) (show _ = Value.agg (oc K2 N2 Y2 V2 r2 (.slice va2 l2.length vc2)).toArray from rfl) (oc_sz Hr2.out) (oc_sz rfl) (oc_one _ _ _ _ _ _ _ _) ?_) | (refine St.wl_storeN tyO rfl rfl rfl rfl rfl (by (try simp only [World.size_alloc])) (show _ = Value.agg (oc 0 0 ByteArray.empty ByteArray.empty Z32 (.slice va2 0 vc2)).toArray from rfl) (oc_sz rfl) (oc_sz rfl) (oc_one _ _ _ _ _ _ _ _) ?_) | (refine St.wl_buildV (T := 27) (parts := #[]) rfl rfl (cs := oz0) (by kernel_rfl) ?_; simp only [Act.put, List.setIfInBounds_toArray, List.set_cons_zero, List.set_cons_succ]) | ((with_reducible refine at_load 27 ?_); first | (refine St.wl_load tyO (by rfl) rfl rfl (E0.out.calm HK.out).all (oc_len _ _ _ _ _ _ Hr.out) ?_; simp only [Act.put, List.setIfInBounds_toArray, List.set_cons_zero, List.set_cons_succ]) | (refine St.wl_load tyO (by rfl) rfl rfl E1.out.all (oc_len _ _ _ _ _ _ Hr.out) ?_; simp only [Act.put, List.setIfInBounds_toArray, List.set_cons_zero, List.set_cons_succ]) | (refine St.wl_load tyO (by rfl) rfl rfl E2.out.all (oc_len _ _ _ _ _ _ Hr2.out) ?_; simp only [Act.put, List.setIfInBounds_toArray, List.set_cons_zero, List.set_cons_succ]) | (refine St.wl_load tyO (by rfl) rfl rfl E2.out.all (oc_len _ _ _ _ _ _ rfl) ?_; simp only [Act.put, List.setIfInBounds_toArray, List.set_cons_zero, List.set_cons_succ])) | (go_at_call_has 19 (Value.agg oz0); refine (same_o _ 0 0 0 0 ByteArray.empty ByteArray.empty ByteArray.empty ByteArray.empty Z32 Z32 va2 none 0 vc2 0 0 [] [] rfl rfl A2.out (at0 _) true (sm_self _ _ _ _ _ _)).mono ?_; rintro e w6 ⟨rfl, k1⟩; have HK : Hid _ := HK.out.trans k1; clear k1) | (go_at_call 19; refine (same_o _ K N K N Y V Y V r r a va n c l.length vc l l Hr.out Hr.out (A0.out.calm HK.out) A1.out true (sm_self _ _ _ _ _ _)).mono ?_; rintro e w6 ⟨rfl, k1⟩; have HK : Hid _ := HK.out.trans k1; clear k1) | (go_at_call 20; refine (belongs_any _ K2 b2 Hb2.out).mono ?_; rintro e w7 ⟨rfl, rfl⟩) | (go_at_call 11; refine (awake_true _ (HT.out.calm HK.out)).mono ?_; rintro e w8 ⟨rfl, k1⟩; have HK : Hid _ := HK.out.trans k1; clear k1))
        go_ret
        exact ⟨rfl, Keep.below (HK0.out.trans HK.out) (Nat.le_refl _) (fun _ h => h.elim)⟩
    · have hR := ofo_err s he
      obtain ⟨e0, he0⟩ : ∃ e0, (ofo s).e = e0 := ⟨_, rfl⟩
      rw [he0] at hR he
      have HoZ : Hid (∀ w, TabP w → Calls Tryd.prog 12 #[.string s] w fun e w' => ∃ va vc, e = .returned (.tuple #[.agg (oc 0 0 ByteArray.empty ByteArray.empty Z32 (.slice va 0 vc)).toArray, .int .i64 e0]) ∧ Own w' (.slice va 0 vc) [] ∧ Keep (fun _ => False) w w') := fun w hT => by
        have := of_any_op w hT s hs
        rw [hR] at this
        refine this.mono fun e w' h => ?_
        obtain ⟨va, vc, h1, h2, h3, _⟩ := of_some h
        exact ⟨va, vc, h1, h2, h3⟩
      have he1 : (e0 != 0) = true := by simpa using he
      clear hR he0 he hrl
      by_cases hk : ck K N Y V r n l = 0
      · skip
        have hck : ck K N Y V r l.length l = 0 := by rw [hln]; exact hk
        have hlen := ob_len K N Y V r l hck hr h32
        obtain ⟨t, ht⟩ : ∃ t : ByteArray, (⟨(ob K N Y V r l).toArray⟩ : ByteArray) = t := ⟨_, rfl⟩
        have htz : t.size ≤ 512 := by rw [← ht, Byt.arr_size]; exact hlen.2
        have HP1 : Hid (∀ w, TabP w → At w a n l → Calls Tryd.prog 15 #[.agg (oc K N Y V r (.slice a n c)).toArray] w fun e w' => e = .returned (.tuple #[.string t, .int .i64 0]) ∧ Keep (fun _ => False) w w') := fun w hT hA => ht ▸ put_ok w hT K N Y V r a n c l hr hA hk
        have HoT : Hid (∀ w, TabP w → Calls Tryd.prog 12 #[.string t] w (OfPost ⟨0, K, N, Y, V, r, l⟩ w)) := fun w hT => by
          have := of_any_op w hT t (by unfold maxLen; omega)
          rwa [← ht, ofo_ob K N Y V r l hck hr h32, ht] at this
        clear hck hlen ht
        clear hk hr h1 hs hT hln h32 hm1
        go_enter Tryd.func6, Tryd.ntmps6
        go_wp2_with (first | (go_at_call_has 15 (Value.agg (oc K2 N2 Y2 V2 r2 (Value.slice va2 l2.length vc2)).toArray); refine (HP2.out _ va2 vc2 (HT.out.calm HK.out) A2.out).mono ?_; rintro e w4 ⟨rfl, k1⟩; have HK : Hid _ := HK.out.trans k1; have E2 : Hid _ := E2.out.calm k1; clear k1; obtain ⟨q0, _⟩ := E2.out.cells) | (go_at_call 15; refine (HP1.out _ (HT.out.calm HK.out) (A0.out.calm HK.out)).mono ?_; rintro e w1 ⟨rfl, k1⟩; have HK : Hid _ := HK.out.trans k1; clear k1) | (go_at_call_has 12 (Value.string s); refine ((HoS.out _ (HT.out.calm HK.out)).mono fun _ _ h => of_some h).mono ?_; rintro e w3 ⟨va2, vc2, rfl, h1, k1, _⟩; have A2 : Hid _ := (ids_own h1).calm ((Keep.refl _ _).alloc (.cells (oc K2 N2 Y2 V2 r2 (.slice va2 l2.length vc2)).toArray 27)); have E2 : Hid _ := OAt.new (K := K2) (N := N2) (Y := Y2) (V := V2) (rv := .slice va2 l2.length vc2) w3 Hr2.out; have HK : Hid _ := (HK.out.trans k1).alloc (.cells (oc K2 N2 Y2 V2 r2 (.slice va2 l2.length vc2)).toArray 27); clear h1 k1) | (go_at_call_has 12 (Value.string s); refine (HoZ.out _ (HT.out.calm HK.out)).mono ?_; rintro e w3 ⟨va2, vc2, rfl, h1, k1⟩; have A2 : Hid (At _ va2 0 []) := (ids_own (l := []) h1).calm ((Keep.refl _ _).alloc (.cells (oc 0 0 ByteArray.empty ByteArray.empty Z32 (.slice va2 0 vc2)).toArray 27)); have E2 : Hid _ := OAt.new (K := 0) (N := 0) (Y := ByteArray.empty) (V := ByteArray.empty) (rv := .slice va2 0 vc2) w3 (rfl : Z32.length = 32); have HK : Hid _ := (HK.out.trans k1).alloc (.cells (oc 0 0 ByteArray.empty ByteArray.empty Z32 (.slice va2 0 vc2)).toArray 27); clear h1 k1) | (go_at_call 12; refine ((HoT.out _ (HT.out.calm HK.out)).mono fun _ _ h => of_some h).mono ?_; rintro e w2 ⟨va, vc, rfl, h1, k1, _⟩; have A1 : Hid _ := (ids_own h1).calm ((Keep.refl _ _).alloc (.cells (oc K N Y V r (.slice va l.length vc)).toArray 27)); have E1 : Hid _ := OAt.new (K := K) (N := N) (Y := Y) (V := V) (rv := .slice va l.length vc) w2 Hr.out; have HK : Hid _ := (HK.out.trans k1).alloc (.cells (oc K N Y V r (.slice va l.length vc)).toArray 27); clear h1 k1) | (refine St.wl_alloc tyO rfl rfl (by (try simp only [World.size_alloc]); rfl) ?_; simp only [Act.put, List.setIfInBounds_toArray, List.set_cons_zero, List.set_cons_succ]) | (refine St.wl_storeN tyO rfl rfl rfl rfl rfl (by (try simp only [World.size_alloc])) (show _ = Value.agg (oc K N Y V r (.slice va l.length vc)).toArray from rfl) (oc_sz Hr.out) (oc_sz rfl) (oc_one _ _ _ _ _ _ _ _) ?_) | (refine St.wl_storeN tyO rfl rfl rfl rfl rfl (by (try simp only [World.size_alloc])) (show _ = Value.agg (oc K2 N2 Y2 V2 r2 (.slice va2 l2.length vc2)).toArray from rfl) (oc_sz Hr2.out) (oc_sz rfl) (oc_one _ _ _ _ _ _ _ _) ?_) | (refine St.wl_storeN tyO rfl rfl rfl rfl rfl (by (try simp only [World.size_alloc])) (show _ = Value.agg (oc 0 0 ByteArray.empty ByteArray.empty Z32 (.slice va2 0 vc2)).toArray from rfl) (oc_sz rfl) (oc_sz rfl) (oc_one _ _ _ _ _ _ _ _) ?_) | (refine St.wl_buildV (T := 27) (parts := #[]) rfl rfl (cs := oz0) (by kernel_rfl) ?_; simp only [Act.put, List.setIfInBounds_toArray, List.set_cons_zero, List.set_cons_succ]) | ((with_reducible refine at_load 27 ?_); first | (refine St.wl_load tyO (by rfl) rfl rfl (E0.out.calm HK.out).all (oc_len _ _ _ _ _ _ Hr.out) ?_; simp only [Act.put, List.setIfInBounds_toArray, List.set_cons_zero, List.set_cons_succ]) | (refine St.wl_load tyO (by rfl) rfl rfl E1.out.all (oc_len _ _ _ _ _ _ Hr.out) ?_; simp only [Act.put, List.setIfInBounds_toArray, List.set_cons_zero, List.set_cons_succ]) | (refine St.wl_load tyO (by rfl) rfl rfl E2.out.all (oc_len _ _ _ _ _ _ Hr2.out) ?_; simp only [Act.put, List.setIfInBounds_toArray, List.set_cons_zero, List.set_cons_succ]) | (refine St.wl_load tyO (by rfl) rfl rfl E2.out.all (oc_len _ _ _ _ _ _ rfl) ?_; simp only [Act.put, List.setIfInBounds_toArray, List.set_cons_zero, List.set_cons_succ])) | (go_at_call_has 19 (Value.agg oz0); refine (same_o _ 0 0 0 0 ByteArray.empty ByteArray.empty ByteArray.empty ByteArray.empty Z32 Z32 va2 none 0 vc2 0 0 [] [] rfl rfl A2.out (at0 _) true (sm_self _ _ _ _ _ _)).mono ?_; rintro e w6 ⟨rfl, k1⟩; have HK : Hid _ := HK.out.trans k1; clear k1) | (go_at_call 19; refine (same_o _ K N K N Y V Y V r r a va n c l.length vc l l Hr.out Hr.out (A0.out.calm HK.out) A1.out true (sm_self _ _ _ _ _ _)).mono ?_; rintro e w6 ⟨rfl, k1⟩; have HK : Hid _ := HK.out.trans k1; clear k1) | (go_at_call 20; refine (belongs_any _ K2 b2 Hb2.out).mono ?_; rintro e w7 ⟨rfl, rfl⟩) | (go_at_call 11; refine (awake_true _ (HT.out.calm HK.out)).mono ?_; rintro e w8 ⟨rfl, k1⟩; have HK : Hid _ := HK.out.trans k1; clear k1))
        go_ret
        exact ⟨rfl, Keep.below (HK0.out.trans HK.out) (Nat.le_refl _) (fun _ h => h.elim)⟩
      · skip
        obtain ⟨v, hv⟩ : ∃ v, ck K N Y V r n l = v := ⟨_, rfl⟩
        have HP1 : Hid (∀ w, TabP w → At w a n l → Calls Tryd.prog 15 #[.agg (oc K N Y V r (.slice a n c)).toArray] w fun e w' => e = .returned (.tuple #[.string ByteArray.empty, .int .i64 v]) ∧ Keep (fun _ => False) w w') := fun w hT hA => put_bad w hT K N Y V r a n c l hr hA v hv (by rw [← hv]; exact hk)
        have hv0 : (v == 0) = false := by rw [← hv]; simpa using hk
        clear hv
        clear hk hr h1 hs hT hln h32 hm1
        go_enter Tryd.func6, Tryd.ntmps6
        go_wp2_with (first | (go_at_call_has 15 (Value.agg (oc K2 N2 Y2 V2 r2 (Value.slice va2 l2.length vc2)).toArray); refine (HP2.out _ va2 vc2 (HT.out.calm HK.out) A2.out).mono ?_; rintro e w4 ⟨rfl, k1⟩; have HK : Hid _ := HK.out.trans k1; have E2 : Hid _ := E2.out.calm k1; clear k1; obtain ⟨q0, _⟩ := E2.out.cells) | (go_at_call 15; refine (HP1.out _ (HT.out.calm HK.out) (A0.out.calm HK.out)).mono ?_; rintro e w1 ⟨rfl, k1⟩; have HK : Hid _ := HK.out.trans k1; clear k1) | (go_at_call_has 12 (Value.string s); refine ((HoS.out _ (HT.out.calm HK.out)).mono fun _ _ h => of_some h).mono ?_; rintro e w3 ⟨va2, vc2, rfl, h1, k1, _⟩; have A2 : Hid _ := (ids_own h1).calm ((Keep.refl _ _).alloc (.cells (oc K2 N2 Y2 V2 r2 (.slice va2 l2.length vc2)).toArray 27)); have E2 : Hid _ := OAt.new (K := K2) (N := N2) (Y := Y2) (V := V2) (rv := .slice va2 l2.length vc2) w3 Hr2.out; have HK : Hid _ := (HK.out.trans k1).alloc (.cells (oc K2 N2 Y2 V2 r2 (.slice va2 l2.length vc2)).toArray 27); clear h1 k1) | (go_at_call_has 12 (Value.string s); refine (HoZ.out _ (HT.out.calm HK.out)).mono ?_; rintro e w3 ⟨va2, vc2, rfl, h1, k1⟩; have A2 : Hid (At _ va2 0 []) := (ids_own (l := []) h1).calm ((Keep.refl _ _).alloc (.cells (oc 0 0 ByteArray.empty ByteArray.empty Z32 (.slice va2 0 vc2)).toArray 27)); have E2 : Hid _ := OAt.new (K := 0) (N := 0) (Y := ByteArray.empty) (V := ByteArray.empty) (rv := .slice va2 0 vc2) w3 (rfl : Z32.length = 32); have HK : Hid _ := (HK.out.trans k1).alloc (.cells (oc 0 0 ByteArray.empty ByteArray.empty Z32 (.slice va2 0 vc2)).toArray 27); clear h1 k1) | (go_at_call 12; refine ((HoT.out _ (HT.out.calm HK.out)).mono fun _ _ h => of_some h).mono ?_; rintro e w2 ⟨va, vc, rfl, h1, k1, _⟩; have A1 : Hid _ := (ids_own h1).calm ((Keep.refl _ _).alloc (.cells (oc K N Y V r (.slice va l.length vc)).toArray 27)); have E1 : Hid _ := OAt.new (K := K) (N := N) (Y := Y) (V := V) (rv := .slice va l.length vc) w2 Hr.out; have HK : Hid _ := (HK.out.trans k1).alloc (.cells (oc K N Y V r (.slice va l.length vc)).toArray 27); clear h1 k1) | (refine St.wl_alloc tyO rfl rfl (by (try simp only [World.size_alloc]); rfl) ?_; simp only [Act.put, List.setIfInBounds_toArray, List.set_cons_zero, List.set_cons_succ]) | (refine St.wl_storeN tyO rfl rfl rfl rfl rfl (by (try simp only [World.size_alloc])) (show _ = Value.agg (oc K N Y V r (.slice va l.length vc)).toArray from rfl) (oc_sz Hr.out) (oc_sz rfl) (oc_one _ _ _ _ _ _ _ _) ?_) | (refine St.wl_storeN tyO rfl rfl rfl rfl rfl (by (try simp only [World.size_alloc])) (show _ = Value.agg (oc K2 N2 Y2 V2 r2 (.slice va2 l2.length vc2)).toArray from rfl) (oc_sz Hr2.out) (oc_sz rfl) (oc_one _ _ _ _ _ _ _ _) ?_) | (refine St.wl_storeN tyO rfl rfl rfl rfl rfl (by (try simp only [World.size_alloc])) (show _ = Value.agg (oc 0 0 ByteArray.empty ByteArray.empty Z32 (.slice va2 0 vc2)).toArray from rfl) (oc_sz rfl) (oc_sz rfl) (oc_one _ _ _ _ _ _ _ _) ?_) | (refine St.wl_buildV (T := 27) (parts := #[]) rfl rfl (cs := oz0) (by kernel_rfl) ?_; simp only [Act.put, List.setIfInBounds_toArray, List.set_cons_zero, List.set_cons_succ]) | ((with_reducible refine at_load 27 ?_); first | (refine St.wl_load tyO (by rfl) rfl rfl (E0.out.calm HK.out).all (oc_len _ _ _ _ _ _ Hr.out) ?_; simp only [Act.put, List.setIfInBounds_toArray, List.set_cons_zero, List.set_cons_succ]) | (refine St.wl_load tyO (by rfl) rfl rfl E1.out.all (oc_len _ _ _ _ _ _ Hr.out) ?_; simp only [Act.put, List.setIfInBounds_toArray, List.set_cons_zero, List.set_cons_succ]) | (refine St.wl_load tyO (by rfl) rfl rfl E2.out.all (oc_len _ _ _ _ _ _ Hr2.out) ?_; simp only [Act.put, List.setIfInBounds_toArray, List.set_cons_zero, List.set_cons_succ]) | (refine St.wl_load tyO (by rfl) rfl rfl E2.out.all (oc_len _ _ _ _ _ _ rfl) ?_; simp only [Act.put, List.setIfInBounds_toArray, List.set_cons_zero, List.set_cons_succ])) | (go_at_call_has 19 (Value.agg oz0); refine (same_o _ 0 0 0 0 ByteArray.empty ByteArray.empty ByteArray.empty ByteArray.empty Z32 Z32 va2 none 0 vc2 0 0 [] [] rfl rfl A2.out (at0 _) true (sm_self _ _ _ _ _ _)).mono ?_; rintro e w6 ⟨rfl, k1⟩; have HK : Hid _ := HK.out.trans k1; clear k1) | (go_at_call 19; refine (same_o _ K N K N Y V Y V r r a va n c l.length vc l l Hr.out Hr.out (A0.out.calm HK.out) A1.out true (sm_self _ _ _ _ _ _)).mono ?_; rintro e w6 ⟨rfl, k1⟩; have HK : Hid _ := HK.out.trans k1; clear k1) | (go_at_call 20; refine (belongs_any _ K2 b2 Hb2.out).mono ?_; rintro e w7 ⟨rfl, rfl⟩) | (go_at_call 11; refine (awake_true _ (HT.out.calm HK.out)).mono ?_; rintro e w8 ⟨rfl, k1⟩; have HK : Hid _ := HK.out.trans k1; clear k1))
        go_ret
        exact ⟨rfl, Keep.below (HK0.out.trans HK.out) (Nat.le_refl _) (fun _ h => h.elim)⟩
  · unfold maxLen at hs hm1
    have hgo' : 60 < n ∨ (n ≤ 60 ∧ 2000 < s.size) := by omega
    clear hgo hT hr h1 hln h32
    rcases hgo' with h | ⟨h, h'⟩
    all_goals
      go_enter Tryd.func6, Tryd.ntmps6
      go_wp2_with (first | (go_at_call 11; refine (awake_true _ HT.out).mono ?_; rintro e w5 ⟨rfl, k1⟩; have HK : Hid _ := k1; clear k1))
      go_ret
      exact ⟨rfl, Keep.below (HK0.out.trans HK.out) (Nat.le_refl _) (fun _ h => h.elim)⟩

set_option maxRecDepth 100000 in
theorem own : ownKnob Tryd.prog.godebug = none := by kernel_rfl
set_option maxRecDepth 100000 in
theorem laidOut : laidOutB Tryd.prog = true := by kernel_rfl
set_option maxRecDepth 100000 in
theorem contract (H : Type) (enc : TypeId × Value → H) (W : World) (base : Nat) (args : Array Value) (ds gs : List (DataW H)) (before : List MemPlace)
    (hval : ∀ (j : Nat) t v, Tryd.f6.params[j]? = some t → args[j]? = some v → Value.okWide Tryd.prog W .any base t v)
    (hW : DataW.Whole enc Tryd.prog Tryd.f6.params.toList Rows.opBackSpec.vars false W args.toList ds gs before) (hL : laidMetH Tryd.prog Rows.opBackRow.laid W) :
    Calls Tryd.prog 6 args W fun e W' => ∃ v, e = .returned v ∧ Rows.opBackSpec.post enc Tryd.prog Tryd.f6 false true false false W args v W' := by
  have hW' := hW
  have hTab := Lad.parts_of hL
  obtain ⟨p, q, hA0, hV, rfl, hfz, hnd⟩ := hW
  have hA : DataW.TrodAll enc Tryd.prog W 0 (fun _ => true) true Tryd.f6.params.toList args.toList ds p := hA0
  rw [Tryd.params6] at hA hval
  obtain ⟨rfl, rfl⟩ := trodVars_none hV
  obtain ⟨v0, vs0, d0, ds0, p0, q0, hargs, rfl, rfl, h0, r0⟩ := trodAll_cons hA
  obtain ⟨v1, vs1, d1, ds1, p1, q1, rfl, rfl, rfl, h1, r1⟩ := trodAll_cons r0
  obtain ⟨rfl, rfl, rfl⟩ := trodAll_nil r1
  obtain rfl : args = #[v0, v1] := by cases args; simp_all
  obtain ⟨x, rfl, f0, _⟩ := Opn.open_st Tryd.underlying27 rdO (hval 0 _ v0 rfl rfl) h0
  obtain ⟨s, rfl, rfl, rfl, hs⟩ := open_string Tryd.underlying9 (hval 1 _ v1 rfl rfl) h1
  refine (walk x.1 x.2.1 x.2.2.1 x.2.2.2.1 x.2.2.2.2.1 x.2.2.2.2.2.1.a x.2.2.2.2.2.1.len x.2.2.2.2.2.1.cap x.2.2.2.2.2.1.els s W hTab f0.1 f0.2 hs).mono fun e W' ⟨he, bel⟩ => ?_
  subst he
  exact ⟨_, rfl, Opn.law_post laidOut (by kernel_rfl) rfl Tryd.underlying4 rfl rfl hW' bel⟩
set_option maxRecDepth 100000 in
theorem lifted (os : Os) (started : os.Started) (H : Type) (enc : TypeId × Value → H) :
    ReturnsInHanded {} Tryd.checked os 6 .any (fun w args => (Rows.opBackSpec.pre enc Tryd.prog Tryd.f6 [] false w args ∧ laidMetH Tryd.prog Rows.opBackRow.laid w) ∧ sizedMet enc Tryd.prog Tryd.f6 (OpenSpec.ofChange Rows.opBackSpec) false w args)
      (Rows.opBackSpec.post enc Tryd.prog Tryd.f6 false true false false) := by
  refine returnsInHanded_of_change_and (C := Tryd.checked) (X := fun w _ => laidMetH Tryd.prog Rows.opBackRow.laid w) (fun _ _ _ hh h => h.of_heap hh) own started (by kernel_rfl) Tryd.func6
    (ChangeSpec.witness_shaped (enc := enc) (C := Tryd.checked) (os := os) (X := fun w _ => laidMetH Tryd.prog Rows.opBackRow.laid w) false (World.laidAll Tryd.prog os Rows.opBackRow.laid) #[.agg oz0, .string .empty] 8 (World.laidAll_os _ _ _)
      (World.shaped_of_ZipB (by kernel_rfl) (by kernel_rfl)) (by kernel_rfl) (by kernel_rfl) (by kernel_rfl)
      (by rw [MakeChecks.laidMetH_plain _ _ _ (by kernel_rfl)]; exact laidMet_laidAll _ (by kernel_rfl) (by kernel_rfl))) ?_
  intro W base args ds gs before hval0 hW _ _ hL _
  exact contract H enc W base args ds gs before hval0 hW hL
theorem over : Rows.opBackRow.holds Tryd.pinned (OpenSpec.ofChange Rows.opBackSpec) :=
  OpenClaim.holds_of_wide 6 Tryd.f6 rfl rfl rfl rfl rfl rfl rfl ⟨rfl, rfl, rfl, rfl, rfl⟩ rfl rfl rfl rfl rfl (by kernel_rfl) Tryd.func6 (by kernel_rfl)
    (of_decide_eq_true (by kernel_rfl)) (by unfold Func.isWrapper; first | (rw [if_pos (by decide +kernel)]; kernel_rfl) | (rw [if_neg (by decide +kernel)]; exact ⟨rfl, rfl⟩))
    (fun os started H enc _ => lifted os started H enc)
theorem proved : Rows.OpBackCardSaid :=
  Claim7.holds_tied_plain_at .later [] [.data] true _ false over (fun _ h => by cases h) (by kernel_rfl) (fun _ h => by cases h) opBack_row_tie rfl ⟨rfl, rfl⟩ (by kernel_rfl) rfl
    (fun f fn hf hfn => by
      obtain rfl : f = 6 := Option.some.inj ((show Tryd.prog.funcNamed "petrel/petrellaw07.OpBack" = some 6 by kernel_rfl).symm.trans hf) |>.symm
      obtain rfl : fn = Tryd.f6 := (Option.some.inj (Tryd.func6.symm.trans hfn)).symm
      exact ⟨by kernel_rfl, fun j t ht => by
        rw [Tryd.params6] at ht
        have hm : t ∈ [27, 9] := by simpa using Array.mem_of_getElem? ht
        have hall : ([27, 9].all fun u => !Tryd.prog.wantsStandIn u) = true := by kernel_rfl
        exact (show Tryd.prog.wantsStandIn t = false by simpa using List.all_eq_true.1 hall t hm)⟩)
    (by kernel_rfl)
end OpBack
end Go.Proofs.YtfoplimdbapdfaaDoor
