/-
  'petrellaw14.EntryBack': what is put is read as it was; what is read is put as it was. For every input.
-/
import Derived.Test.YtmnmemeldjbifaaEnE
import Derived.Test.YtmnmemeldjbifaaEnL
set_option linter.unusedVariables false
set_option linter.unusedSimpArgs false
namespace Go.Proofs.Ytmnmemeldjbifaa
open Go.RowKit
namespace EnBack
open Oct Ids En Go.ChangeShapes Go.WideShapes Go.ChangeAt
open Go.ChangeMaps (open_string shut_string)

theorem all_e {w : World} {g : Nat} {K : Int} {T B : ByteArray} {c : List UInt8} (h : w.heap[g]? = some (.cells (ec K T B c).toArray 43 (0, 0))) : w.rangeAt g 0 (ec K T B c) := fun j v hj => by
  rw [Nat.zero_add, cell_of h, List.getElem?_toArray]; exact hj
set_option maxRecDepth 100000 in
set_option maxHeartbeats 4000000 in
theorem walk (K : Int) (T B : ByteArray) (c : List UInt8) (s : ByteArray) (w : World) (hc : c.length = 32) (hT : T.size ≤ maxLen) (hB : B.size ≤ maxLen) (hs : s.size ≤ maxLen) :
    Calls Try.prog 7 #[.agg (ec K T B c).toArray, .string s] w fun e w' => e = .returned (.bool true) ∧ Below w.heap.size w w' := by
  have E0 : Hid _ := EAt.new (K := K) (T := T) (B := B) w hc
  have HA : Hid (∀ w, _) := fun w => awake_true w
  have Hl : Hid _ := hc
  by_cases hgo : B.size ≤ 5000 ∧ s.size ≤ 5000
  · obtain ⟨h1, h2⟩ := hgo
    have hgd := guard_e
    obtain ⟨g0, g1, g2⟩ := E0.out.cells
    have HoS : Hid (∀ w, _) := fun w => ofE_any w s hs
    by_cases hr : (ofe s).e = 0
    · obtain ⟨hck2, hen2, hcl2, hT2, hB2⟩ := en_ofe s hr
      obtain ⟨R, hR⟩ : ∃ R, ofe s = R := ⟨_, rfl⟩
      rw [hR] at HoS hr hck2 hen2 hcl2 hT2 hB2
      clear hR
      obtain ⟨e0, K2, T2, B2, c2⟩ := R
      simp only at hr hck2 hen2 hcl2 hT2 hB2
      subst hr
      unfold ev at HoS
      simp only at HoS
      have Hl2 : Hid _ := hcl2
      have Hp2 : Hid (∀ w, _) := fun w => put_ok w K2 T2 B2 c2 hcl2 hck2
      rw [hen2] at Hp2
      clear hck2 hen2 hcl2 hT2 hB2
      by_cases hk : ck K T B c = 0
      · have Hp : Hid (∀ w, _) := fun w => put_ok w K T B c hc hk
        have HoT : Hid (∀ w, _) := fun w => ofE_any w ⟨(en K T B c).toArray⟩ (by obtain ⟨q1, q2, _⟩ := len_T hk; rw [Byt.arr_size]; have := en_len K T B c hc; unfold maxLen; omega)
        rw [ofe_en K T B c hc hk] at HoT
        unfold ev at HoT
        simp only at HoT
        generalize (⟨(en K T B c).toArray⟩ : ByteArray) = t at Hp HoT
        have hcmp : ∀ w, Sem.run Try.prog (binOp .neq 43 (.agg (ec K T B c).toArray) (.agg (ec K T B c).toArray)) w = .ok (.bool false) w := fun w => by rw [neq_e w K K T B T B c c hc hc, eqE_self]; rfl
        clear hk hc hT hB hs
        go_enter Try.func7, Try.ntmps7
        go_wp2_with (first | (go_at_call_has 21 (Value.agg (ec K2 T2 B2 c2).toArray); refine (Hp2.out _).mono ?_; rintro e w4 ⟨rfl, k1⟩; have HK : Hid _ := HK.out.trans k1; clear k1) | (go_at_call 21; refine (Hp.out _).mono ?_; rintro e w1 ⟨rfl, k1⟩; have HK : Hid _ := ((Keep.refl (fun _ => False) w).alloc _).trans k1; have E0 : Hid _ := E0.out.calm k1; clear k1; obtain ⟨g0, g1, g2⟩ := E0.out.cells) | (go_at_call_has 25 (Value.string s); refine (HoS.out _).mono ?_; rintro e w3 ⟨rfl, k1⟩; have HX2 : Hid _ := heap_alloc_new w3 (.cells (ec K2 T2 B2 c2).toArray 43); have HK : Hid _ := (HK.out.trans k1).alloc (.cells (ec K2 T2 B2 c2).toArray 43); clear k1) | (go_at_call 25; refine (HoT.out _).mono ?_; rintro e w2 ⟨rfl, k1⟩; have HX1 : Hid _ := heap_alloc_new w2 (.cells (ec K T B c).toArray 43); have HK : Hid _ := (HK.out.trans k1).alloc (.cells (ec K T B c).toArray 43); have E1 : Hid _ := (E0.out.calm k1).calm ((Keep.refl _ _).alloc (.cells (ec K T B c).toArray 43)); clear k1) | (refine St.wl_alloc stE rfl rfl (by (try simp only [World.size_alloc]); rfl) ?_; simp only [Act.put, List.setIfInBounds_toArray, List.set_cons_zero, List.set_cons_succ]) | (refine St.wl_storeN stE rfl rfl rfl rfl rfl (by (try simp only [World.size_alloc])) (show _ = Value.agg (ec K T B c).toArray from rfl) (ec_sz Hl.out) (ec_sz rfl) (ec_one _ _ _ _) ?_) | (refine St.wl_storeN stE rfl rfl rfl rfl rfl (by (try simp only [World.size_alloc])) (show _ = Value.agg (ec K2 T2 B2 c2).toArray from rfl) (ec_sz Hl2.out) (ec_sz rfl) (ec_one _ _ _ _) ?_) | (refine St.wl_load stE (by rfl) rfl rfl E0.out.all (ec_len _ _ _ _ Hl.out) ?_; simp only [Act.put, List.setIfInBounds_toArray, List.set_cons_zero, List.set_cons_succ]) | (refine St.wl_load stE (by rfl) rfl rfl (all_e HX2.out) (ec_len _ _ _ _ Hl2.out) ?_; simp only [Act.put, List.setIfInBounds_toArray, List.set_cons_zero, List.set_cons_succ]) | (refine St.wl_load stE (by rfl) rfl rfl (all_e HX1.out) (ec_len _ _ _ _ Hl.out) ?_; simp only [Act.put, List.setIfInBounds_toArray, List.set_cons_zero, List.set_cons_succ]) | (refine St.wl_load stE (by rfl) rfl rfl E1.out.all (ec_len _ _ _ _ Hl.out) ?_; simp only [Act.put, List.setIfInBounds_toArray, List.set_cons_zero, List.set_cons_succ]) | (go_at_call 20; refine (HA.out _).mono ?_; rintro e w5 ⟨rfl, k1⟩; have HK : Hid _ := HK.out.trans k1; clear k1))
        go_ret
        exact ⟨rfl, Keep.below HK.out (Nat.le_refl _) (fun _ h => h.elim)⟩
      · have hk2 : (ck K T B c == 0) = false := by simpa using hk
        have Hp : Hid (∀ w, _) := fun w => put_bad w K T B c hc hT hB hk
        generalize ck K T B c = v at Hp hk2
        clear hk hc hT hB hs
        go_enter Try.func7, Try.ntmps7
        go_wp2_with (first | (go_at_call_has 21 (Value.agg (ec K2 T2 B2 c2).toArray); refine (Hp2.out _).mono ?_; rintro e w4 ⟨rfl, k1⟩; have HK : Hid _ := HK.out.trans k1; clear k1) | (go_at_call 21; refine (Hp.out _).mono ?_; rintro e w1 ⟨rfl, k1⟩; have HK : Hid _ := ((Keep.refl (fun _ => False) w).alloc _).trans k1; have E0 : Hid _ := E0.out.calm k1; clear k1; obtain ⟨g0, g1, g2⟩ := E0.out.cells) | (go_at_call_has 25 (Value.string s); refine (HoS.out _).mono ?_; rintro e w3 ⟨rfl, k1⟩; have HX2 : Hid _ := heap_alloc_new w3 (.cells (ec K2 T2 B2 c2).toArray 43); have HK : Hid _ := (HK.out.trans k1).alloc (.cells (ec K2 T2 B2 c2).toArray 43); clear k1) | (go_at_call 25; refine (HoT.out _).mono ?_; rintro e w2 ⟨rfl, k1⟩; have HX1 : Hid _ := heap_alloc_new w2 (.cells (ec K T B c).toArray 43); have HK : Hid _ := (HK.out.trans k1).alloc (.cells (ec K T B c).toArray 43); have E1 : Hid _ := (E0.out.calm k1).calm ((Keep.refl _ _).alloc (.cells (ec K T B c).toArray 43)); clear k1) | (refine St.wl_alloc stE rfl rfl (by (try simp only [World.size_alloc]); rfl) ?_; simp only [Act.put, List.setIfInBounds_toArray, List.set_cons_zero, List.set_cons_succ]) | (refine St.wl_storeN stE rfl rfl rfl rfl rfl (by (try simp only [World.size_alloc])) (show _ = Value.agg (ec K T B c).toArray from rfl) (ec_sz Hl.out) (ec_sz rfl) (ec_one _ _ _ _) ?_) | (refine St.wl_storeN stE rfl rfl rfl rfl rfl (by (try simp only [World.size_alloc])) (show _ = Value.agg (ec K2 T2 B2 c2).toArray from rfl) (ec_sz Hl2.out) (ec_sz rfl) (ec_one _ _ _ _) ?_) | (refine St.wl_load stE (by rfl) rfl rfl E0.out.all (ec_len _ _ _ _ Hl.out) ?_; simp only [Act.put, List.setIfInBounds_toArray, List.set_cons_zero, List.set_cons_succ]) | (refine St.wl_load stE (by rfl) rfl rfl (all_e HX2.out) (ec_len _ _ _ _ Hl2.out) ?_; simp only [Act.put, List.setIfInBounds_toArray, List.set_cons_zero, List.set_cons_succ]) | (refine St.wl_load stE (by rfl) rfl rfl (all_e HX1.out) (ec_len _ _ _ _ Hl.out) ?_; simp only [Act.put, List.setIfInBounds_toArray, List.set_cons_zero, List.set_cons_succ]) | (refine St.wl_load stE (by rfl) rfl rfl E1.out.all (ec_len _ _ _ _ Hl.out) ?_; simp only [Act.put, List.setIfInBounds_toArray, List.set_cons_zero, List.set_cons_succ]) | (go_at_call 20; refine (HA.out _).mono ?_; rintro e w5 ⟨rfl, k1⟩; have HK : Hid _ := HK.out.trans k1; clear k1))
        go_ret
        exact ⟨rfl, Keep.below HK.out (Nat.le_refl _) (fun _ h => h.elim)⟩
    · obtain ⟨q1, q2, q3, q4⟩ := ofe_err s hr
      have hr1 : ((ofe s).e != 0) = true := by simpa using hr
      unfold ev at HoS
      rw [q1, q2, q3, q4] at HoS
      generalize (ofe s).e = e0 at HoS hr1
      clear q1 q2 q3 q4 hr
      have hcm0 : ∀ w, Sem.run Try.prog (binOp .eql 43 (.agg (ec 0 ByteArray.empty ByteArray.empty Z32).toArray) (.agg (ec 0 ByteArray.empty ByteArray.empty Z32).toArray)) w = .ok (.bool true) w := fun w => by rw [eql_e w 0 0 ByteArray.empty ByteArray.empty ByteArray.empty ByteArray.empty Z32 Z32 rfl rfl, eqE_self]
      by_cases hk : ck K T B c = 0
      · have Hp : Hid (∀ w, _) := fun w => put_ok w K T B c hc hk
        have HoT : Hid (∀ w, _) := fun w => ofE_any w ⟨(en K T B c).toArray⟩ (by obtain ⟨q1, q2, _⟩ := len_T hk; rw [Byt.arr_size]; have := en_len K T B c hc; unfold maxLen; omega)
        rw [ofe_en K T B c hc hk] at HoT
        unfold ev at HoT
        simp only at HoT
        generalize (⟨(en K T B c).toArray⟩ : ByteArray) = t at Hp HoT
        have hcmp : ∀ w, Sem.run Try.prog (binOp .neq 43 (.agg (ec K T B c).toArray) (.agg (ec K T B c).toArray)) w = .ok (.bool false) w := fun w => by rw [neq_e w K K T B T B c c hc hc, eqE_self]; rfl
        clear hk hc hT hB hs
        go_enter Try.func7, Try.ntmps7
        go_wp2_with (first | (go_at_call 21; refine (Hp.out _).mono ?_; rintro e w1 ⟨rfl, k1⟩; have HK : Hid _ := ((Keep.refl (fun _ => False) w).alloc _).trans k1; have E0 : Hid _ := E0.out.calm k1; clear k1; obtain ⟨g0, g1, g2⟩ := E0.out.cells) | (go_at_call_has 25 (Value.string s); refine (HoS.out _).mono ?_; rintro e w3 ⟨rfl, k1⟩; have HX2 : Hid _ := heap_alloc_new w3 (.cells (ec 0 ByteArray.empty ByteArray.empty Z32).toArray 43); have HK : Hid _ := (HK.out.trans k1).alloc (.cells (ec 0 ByteArray.empty ByteArray.empty Z32).toArray 43); clear k1) | (go_at_call 25; refine (HoT.out _).mono ?_; rintro e w2 ⟨rfl, k1⟩; have HX1 : Hid _ := heap_alloc_new w2 (.cells (ec K T B c).toArray 43); have HK : Hid _ := (HK.out.trans k1).alloc (.cells (ec K T B c).toArray 43); have E1 : Hid _ := (E0.out.calm k1).calm ((Keep.refl _ _).alloc (.cells (ec K T B c).toArray 43)); clear k1) | (refine St.wl_alloc stE rfl rfl (by (try simp only [World.size_alloc]); rfl) ?_; simp only [Act.put, List.setIfInBounds_toArray, List.set_cons_zero, List.set_cons_succ]) | (refine St.wl_storeN stE rfl rfl rfl rfl rfl (by (try simp only [World.size_alloc])) (show _ = Value.agg (ec K T B c).toArray from rfl) (ec_sz Hl.out) (ec_sz rfl) (ec_one _ _ _ _) ?_) | (refine St.wl_storeN stE rfl rfl rfl rfl rfl (by (try simp only [World.size_alloc])) (show _ = Value.agg (ec 0 ByteArray.empty ByteArray.empty Z32).toArray from rfl) (ec_sz rfl) (ec_sz rfl) (ec_one _ _ _ _) ?_) | (refine St.wl_buildV rfl rfl (show _ = some (ec 0 ByteArray.empty ByteArray.empty Z32).toArray from (by kernel_rfl)) ?_; simp only [Act.put, List.setIfInBounds_toArray, List.set_cons_zero, List.set_cons_succ]) | (refine St.wl_load stE (by rfl) rfl rfl E0.out.all (ec_len _ _ _ _ Hl.out) ?_; simp only [Act.put, List.setIfInBounds_toArray, List.set_cons_zero, List.set_cons_succ]) | (refine St.wl_load stE (by rfl) rfl rfl (all_e HX2.out) (ec_len _ _ _ _ rfl) ?_; simp only [Act.put, List.setIfInBounds_toArray, List.set_cons_zero, List.set_cons_succ]) | (refine St.wl_load stE (by rfl) rfl rfl (all_e HX1.out) (ec_len _ _ _ _ Hl.out) ?_; simp only [Act.put, List.setIfInBounds_toArray, List.set_cons_zero, List.set_cons_succ]) | (refine St.wl_load stE (by rfl) rfl rfl E1.out.all (ec_len _ _ _ _ Hl.out) ?_; simp only [Act.put, List.setIfInBounds_toArray, List.set_cons_zero, List.set_cons_succ]) | (go_at_call 20; refine (HA.out _).mono ?_; rintro e w5 ⟨rfl, k1⟩; have HK : Hid _ := HK.out.trans k1; clear k1))
        go_ret
        exact ⟨rfl, Keep.below HK.out (Nat.le_refl _) (fun _ h => h.elim)⟩
      · have hk2 : (ck K T B c == 0) = false := by simpa using hk
        have Hp : Hid (∀ w, _) := fun w => put_bad w K T B c hc hT hB hk
        generalize ck K T B c = v at Hp hk2
        clear hk hc hT hB hs
        go_enter Try.func7, Try.ntmps7
        go_wp2_with (first | (go_at_call 21; refine (Hp.out _).mono ?_; rintro e w1 ⟨rfl, k1⟩; have HK : Hid _ := ((Keep.refl (fun _ => False) w).alloc _).trans k1; have E0 : Hid _ := E0.out.calm k1; clear k1; obtain ⟨g0, g1, g2⟩ := E0.out.cells) | (go_at_call_has 25 (Value.string s); refine (HoS.out _).mono ?_; rintro e w3 ⟨rfl, k1⟩; have HX2 : Hid _ := heap_alloc_new w3 (.cells (ec 0 ByteArray.empty ByteArray.empty Z32).toArray 43); have HK : Hid _ := (HK.out.trans k1).alloc (.cells (ec 0 ByteArray.empty ByteArray.empty Z32).toArray 43); clear k1) | (go_at_call 25; refine (HoT.out _).mono ?_; rintro e w2 ⟨rfl, k1⟩; have HX1 : Hid _ := heap_alloc_new w2 (.cells (ec K T B c).toArray 43); have HK : Hid _ := (HK.out.trans k1).alloc (.cells (ec K T B c).toArray 43); have E1 : Hid _ := (E0.out.calm k1).calm ((Keep.refl _ _).alloc (.cells (ec K T B c).toArray 43)); clear k1) | (refine St.wl_alloc stE rfl rfl (by (try simp only [World.size_alloc]); rfl) ?_; simp only [Act.put, List.setIfInBounds_toArray, List.set_cons_zero, List.set_cons_succ]) | (refine St.wl_storeN stE rfl rfl rfl rfl rfl (by (try simp only [World.size_alloc])) (show _ = Value.agg (ec K T B c).toArray from rfl) (ec_sz Hl.out) (ec_sz rfl) (ec_one _ _ _ _) ?_) | (refine St.wl_storeN stE rfl rfl rfl rfl rfl (by (try simp only [World.size_alloc])) (show _ = Value.agg (ec 0 ByteArray.empty ByteArray.empty Z32).toArray from rfl) (ec_sz rfl) (ec_sz rfl) (ec_one _ _ _ _) ?_) | (refine St.wl_buildV rfl rfl (show _ = some (ec 0 ByteArray.empty ByteArray.empty Z32).toArray from (by kernel_rfl)) ?_; simp only [Act.put, List.setIfInBounds_toArray, List.set_cons_zero, List.set_cons_succ]) | (refine St.wl_load stE (by rfl) rfl rfl E0.out.all (ec_len _ _ _ _ Hl.out) ?_; simp only [Act.put, List.setIfInBounds_toArray, List.set_cons_zero, List.set_cons_succ]) | (refine St.wl_load stE (by rfl) rfl rfl (all_e HX2.out) (ec_len _ _ _ _ rfl) ?_; simp only [Act.put, List.setIfInBounds_toArray, List.set_cons_zero, List.set_cons_succ]) | (refine St.wl_load stE (by rfl) rfl rfl (all_e HX1.out) (ec_len _ _ _ _ Hl.out) ?_; simp only [Act.put, List.setIfInBounds_toArray, List.set_cons_zero, List.set_cons_succ]) | (refine St.wl_load stE (by rfl) rfl rfl E1.out.all (ec_len _ _ _ _ Hl.out) ?_; simp only [Act.put, List.setIfInBounds_toArray, List.set_cons_zero, List.set_cons_succ]) | (go_at_call 20; refine (HA.out _).mono ?_; rintro e w5 ⟨rfl, k1⟩; have HK : Hid _ := HK.out.trans k1; clear k1))
        go_ret
        exact ⟨rfl, Keep.below HK.out (Nat.le_refl _) (fun _ h => h.elim)⟩
  · unfold maxLen at hT hB hs
    obtain ⟨g0, g1, g2⟩ := E0.out.cells
    have hgo' : 5000 < B.size ∨ (B.size ≤ 5000 ∧ 5000 < s.size) := by omega
    clear hgo hc
    rcases hgo' with h | ⟨h, h'⟩
    all_goals
      go_enter Try.func7, Try.ntmps7
      go_wp2_with (first | (go_at_call 20; refine (HA.out _).mono ?_; rintro e w5 ⟨rfl, k1⟩; have K5 : Hid _ := k1; clear k1))
      go_ret
      exact ⟨rfl, Keep.below (((Keep.refl (fun _ => False) w).alloc _).trans K5.out) (Nat.le_refl _) (fun _ h => h.elim)⟩

set_option maxRecDepth 100000 in
theorem own : ownKnob Try.prog.godebug = none := by kernel_rfl
set_option maxRecDepth 100000 in
theorem laidOut : laidOutB Try.prog = true := by kernel_rfl
set_option maxRecDepth 100000 in
theorem contract (H : Type) (enc : TypeId × Value → H) (W : World) (base : Nat) (args : Array Value) (ds gs : List (DataW H)) (before : List MemPlace)
    (hval : ∀ (j : Nat) t v, Try.f7.params[j]? = some t → args[j]? = some v → Value.okWide Try.prog W .any base t v)
    (hW : DataW.Whole enc Try.prog Try.f7.params.toList Rows.entryBackSpec.vars false W args.toList ds gs before) :
    Calls Try.prog 7 args W fun e W' => ∃ v, e = .returned v ∧ Rows.entryBackSpec.post enc Try.prog Try.f7 false true false false W args v W' := by
  have hW' := hW
  obtain ⟨p, q, hA0, hV, rfl, hfz, hnd⟩ := hW
  have hA : DataW.TrodAll enc Try.prog W 0 (fun _ => true) true Try.f7.params.toList args.toList ds p := hA0
  rw [Try.params7] at hA hval
  obtain ⟨rfl, rfl⟩ := trodVars_none hV
  obtain ⟨v0, vs0, d0, ds0, p0, q0, hargs, rfl, rfl, h0, r0⟩ := trodAll_cons hA
  obtain ⟨v1, vs1, d1, ds1, p1, q1, rfl, rfl, rfl, h1, r1⟩ := trodAll_cons r0
  obtain ⟨rfl, rfl, rfl⟩ := trodAll_nil r1
  obtain rfl : args = #[v0, v1] := by cases args; simp_all
  obtain ⟨x, rfl, f0, _⟩ := Opn.open_st Try.underlying43 rdE (hval 0 _ v0 rfl rfl) h0
  obtain ⟨s, rfl, rfl, rfl, hs⟩ := open_string Try.underlying9 (hval 1 _ v1 rfl rfl) h1
  refine (walk x.1 x.2.1 x.2.2.1 x.2.2.2.1 s W f0.2.2 f0.1 f0.2.1 hs).mono fun e W' ⟨he, bel⟩ => ?_
  subst he
  exact ⟨_, rfl, Opn.law_post laidOut (by kernel_rfl) rfl Try.underlying4 rfl rfl hW' bel⟩
set_option maxRecDepth 100000 in
theorem lifted (os : Os) (started : os.Started) (H : Type) (enc : TypeId × Value → H) :
    ReturnsInHanded {} Try.checked os 7 .any (Rows.entryBackSpec.pre6 enc Try.prog Try.f7 Rows.entryBackRow.domain false) (Rows.entryBackSpec.post enc Try.prog Try.f7 false true false false) := by
  refine returnsInHanded_of_change (C := Try.checked) own started (by kernel_rfl) Try.func7
    (ChangeSpec.witness6 (enc := enc) (C := Try.checked) false ⟨#[], #[.agg (ec 0 .empty .empty Z32).toArray, .string .empty], []⟩ 8 (by kernel_rfl) (by kernel_rfl) (by kernel_rfl) (by kernel_rfl)) ?_
  intro W base args ds gs before hval0 hW hcnd _
  exact contract H enc W base args ds gs before hval0 hW
theorem over : Rows.entryBackRow.holds Try.pinned (OpenSpec.ofChange Rows.entryBackSpec) :=
  OpenClaim.holds_of_wide 7 Try.f7 rfl rfl rfl rfl rfl rfl rfl ⟨rfl, rfl, rfl, rfl, rfl⟩ rfl rfl rfl rfl rfl (by kernel_rfl) Try.func7 (by kernel_rfl)
    (of_decide_eq_true (by kernel_rfl)) (by unfold Func.isWrapper; first | (rw [if_pos (by decide +kernel)]; kernel_rfl) | (rw [if_neg (by decide +kernel)]; exact ⟨rfl, rfl⟩))
    (fun os started H enc _ => lifted os started H enc)
theorem proved : Rows.EntryBackSaid := over
end EnBack
end Go.Proofs.Ytmnmemeldjbifaa
