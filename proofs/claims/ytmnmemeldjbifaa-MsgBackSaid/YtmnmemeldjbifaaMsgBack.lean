/-
  'petrellaw09.MsgBack': what is put is read as it was; what is read is put as it was. For every input.
-/
import Derived.Test.YtmnmemeldjbifaaMsgPuts
import Derived.Test.YtmnmemeldjbifaaMsgLaw
namespace Go.Proofs.Ytmnmemeldjbifaa
open Go.RowKit
namespace MsgBack
open Oct Ids Ms MsgReads MsgPuts Go.ChangeShapes Go.WideShapes Go.ChangeAt
open Go.ChangeMaps (open_string shut_string)

set_option maxHeartbeats 4000000 in
set_option maxRecDepth 100000 in
theorem walk (K : Int) (a : Option Addr) (n c : Nat) (B s : ByteArray) (l : List (List UInt8)) (w : World) (h1 : At w a n l) (hB : B.size ≤ maxLen) (hs : s.size ≤ maxLen) :
    Calls Try.prog 5 #[.agg #[.int .i64 K, .slice a n c, .string B], .string s] w fun e w' => e = .returned (.bool true) ∧ Below w.heap.size w w' := by
  have hn := h1.most
  unfold maxLen at hB hs hn
  have A1 : Hid _ := h1
  have hl := h1.len
  have hl32 := h1.size
  clear h1
  by_cases hgo : n ≤ 60 ∧ B.size ≤ 2000 ∧ s.size ≤ 3000
  · obtain ⟨g60, g61, g62⟩ := hgo
    obtain ⟨R, hR⟩ : ∃ R, ofv s = R := ⟨_, rfl⟩
    have HoS : Hid (∀ w, _) := fun w => of_post w s
    have hback := enc_ofv s
    have herr := ofv_err s
    unfold OfPost at HoS
    rw [hR] at HoS hback herr
    clear hR
    obtain ⟨e0, K2, l2, B2⟩ := R
    simp only at HoS hback herr
    have hT : chk K n B = 0 → ofv ⟨(enc K n B l).toArray⟩ = ⟨0, K, l, B⟩ := fun hc => ofv_enc K n B l hl32 hl hc
    have hTl : chk K n B = 0 → (enc K n B l).length ≤ 1024 := fun hc => enc_len K n B l hl32 hl hc
    by_cases he : e0 = 0
    · subst he
      obtain ⟨hc2, hb2, h32⟩ := hback rfl
      have hp2 : pv K2 l2.length B2 l2 = s := by unfold pv; rw [if_pos hc2, hb2]
      have Hp2 : Hid _ := hp2
      have Hc2 : Hid _ := hc2
      clear hc2 hb2 h32 hp2 hback herr
      by_cases hc : chk K n B = 0
      · skip
        obtain ⟨T, hTT⟩ : ∃ T : ByteArray, (⟨(enc K n B l).toArray⟩ : ByteArray) = T := ⟨_, rfl⟩
        have HoT : Hid ((0 = 0) → ∀ w, _) := fun _ w => of_post w T
        unfold OfPost at HoT
        have hTs : T.size ≤ 1024 := by rw [← hTT, arr_size]; exact hTl hc
        have hT2 := hT hc
        rw [hTT] at hT2
        rw [hT2] at HoT
        simp only at HoT
        have hp : pv K n B l = T := by unfold pv; rw [if_pos hc, hTT]
        have Hp : Hid _ := hp
        have Hc : Hid _ := hc
        have Hs1 : Hid (∀ va vc, M.same ⟨K, a, n, c, B, l⟩ ⟨K, va, l.length, vc, B, l⟩ = true) := fun va vc => by simp [M.same]
        clear hT hTl hT2 hTT hp hc hl
        go_enter Try.func5, Try.ntmps5
        go_wp2_with (first | (go_at_call 15; first | (refine (put_any _ K2 _ l2.length _ B2 l2 (A3.out.calm ((Keep.refl _ _).alloc _))).mono ?_; rw [Hp2.out, Hc2.out]; rintro e w5 ⟨rfl, k1⟩; have HK : Hid _ := (HK.out.alloc _).trans k1; clear k1) | (refine (put_any _ K a n c B l (A1.out.calm ((Keep.refl _ _).alloc _))).mono ?_; rw [Hp.out, Hc.out]; rintro e w1 ⟨rfl, k1⟩; have HK : Hid _ := ((Keep.refl (fun _ => False) w).alloc _).trans k1; have HM : Hid _ := k1.get (heap_alloc_new w _) (fun h => h); have HT1 : Hid (0 = 0) := rfl; clear k1)) | (go_at_call 12; first | (refine ((HoT.out HT1.out) _).mono ?_; rintro e w2 ⟨va, vc, rfl, h1, _, k1⟩; have A2 : Hid _ := own_at h1; have HM : Hid _ := k1.get HM.out (fun h => h); have HK : Hid _ := HK.out.trans k1; obtain ⟨g0, g1, g2⟩ := mcells (w := w2.alloc (.cells #[.int .i64 K, .slice va l.length vc, .string B] 25)) (heap_a HM.out); clear h1 k1 HT1) | (refine (HoS.out _).mono ?_; rintro e w4 ⟨va2, vc2, rfl, h1, _, k1⟩; have A3 : Hid _ := own_at h1; have HK : Hid _ := HK.out.trans k1; clear h1 k1)) | (go_at_call 19; (refine (same_v _ K K a va n l.length c vc B B l l true ((A1.out.calm HK.out).calm ((Keep.refl _ _).alloc _)) (A2.out.calm ((Keep.refl _ _).alloc _)) (Hs1.out va vc)).mono ?_; rintro e w3 ⟨rfl, k1⟩; have HK : Hid _ := (HK.out.alloc _).trans k1; clear k1 g0 g1 g2 A2)) | (go_at_call 11; refine (awake_true _).mono ?_; rintro e w6 ⟨rfl, k1⟩; have HK : Hid _ := HK.out.trans k1; clear k1))
        go_ret
        exact ⟨rfl, Keep.below HK.out (Nat.le_refl _) (fun _ h => h.elim)⟩
      · skip
        obtain ⟨q, hq⟩ : ∃ q, chk K n B = q := ⟨_, rfl⟩
        have hp : pv K n B l = ByteArray.empty := by unfold pv; rw [if_neg hc]
        have hq0 : (q == 0) = false := by rw [beq_eq_false_iff_ne, ← hq]; exact hc
        have Hp : Hid _ := hp
        have Hc : Hid _ := hq
        clear hT hTl hp hq hc hl
        go_enter Try.func5, Try.ntmps5
        go_wp2_with (first | (go_at_call 15; first | (refine (put_any _ K2 _ l2.length _ B2 l2 (A3.out.calm ((Keep.refl _ _).alloc _))).mono ?_; rw [Hp2.out, Hc2.out]; rintro e w5 ⟨rfl, k1⟩; have HK : Hid _ := (HK.out.alloc _).trans k1; clear k1) | (refine (put_any _ K a n c B l (A1.out.calm ((Keep.refl _ _).alloc _))).mono ?_; rw [Hp.out, Hc.out]; rintro e w1 ⟨rfl, k1⟩; have HK : Hid _ := ((Keep.refl (fun _ => False) w).alloc _).trans k1; have HM : Hid _ := k1.get (heap_alloc_new w _) (fun h => h); have HT1 : Hid (0 = 0) := rfl; clear k1)) | (go_at_call 12; (refine (HoS.out _).mono ?_; rintro e w4 ⟨va2, vc2, rfl, h1, _, k1⟩; have A3 : Hid _ := own_at h1; have HK : Hid _ := HK.out.trans k1; clear h1 k1)) | (go_at_call 11; refine (awake_true _).mono ?_; rintro e w6 ⟨rfl, k1⟩; have HK : Hid _ := HK.out.trans k1; clear k1))
        go_ret
        exact ⟨rfl, Keep.below HK.out (Nat.le_refl _) (fun _ h => h.elim)⟩
    · obtain ⟨rfl, rfl, rfl⟩ := herr he
      have he1 : (e0 != 0) = true := by simpa using he
      clear hback herr he
      by_cases hc : chk K n B = 0
      · skip
        obtain ⟨T, hTT⟩ : ∃ T : ByteArray, (⟨(enc K n B l).toArray⟩ : ByteArray) = T := ⟨_, rfl⟩
        have HoT : Hid ((0 = 0) → ∀ w, _) := fun _ w => of_post w T
        unfold OfPost at HoT
        have hTs : T.size ≤ 1024 := by rw [← hTT, arr_size]; exact hTl hc
        have hT2 := hT hc
        rw [hTT] at hT2
        rw [hT2] at HoT
        simp only at HoT
        have hp : pv K n B l = T := by unfold pv; rw [if_pos hc, hTT]
        have Hp : Hid _ := hp
        have Hc : Hid _ := hc
        have Hs1 : Hid (∀ va vc, M.same ⟨K, a, n, c, B, l⟩ ⟨K, va, l.length, vc, B, l⟩ = true) := fun va vc => by simp [M.same]
        clear hT hTl hT2 hTT hp hc hl
        go_enter Try.func5, Try.ntmps5
        go_wp2_with (first | (go_at_call 15; first | (refine (put_any _ K2 _ l2.length _ B2 l2 (A3.out.calm ((Keep.refl _ _).alloc _))).mono ?_; rw [Hp2.out, Hc2.out]; rintro e w5 ⟨rfl, k1⟩; have HK : Hid _ := (HK.out.alloc _).trans k1; clear k1) | (refine (put_any _ K a n c B l (A1.out.calm ((Keep.refl _ _).alloc _))).mono ?_; rw [Hp.out, Hc.out]; rintro e w1 ⟨rfl, k1⟩; have HK : Hid _ := ((Keep.refl (fun _ => False) w).alloc _).trans k1; have HM : Hid _ := k1.get (heap_alloc_new w _) (fun h => h); have HT1 : Hid (0 = 0) := rfl; clear k1)) | (go_at_call 12; first | (refine ((HoT.out HT1.out) _).mono ?_; rintro e w2 ⟨va, vc, rfl, h1, _, k1⟩; have A2 : Hid _ := own_at h1; have HM : Hid _ := k1.get HM.out (fun h => h); have HK : Hid _ := HK.out.trans k1; obtain ⟨g0, g1, g2⟩ := mcells (w := w2.alloc (.cells #[.int .i64 K, .slice va l.length vc, .string B] 25)) (heap_a HM.out); clear h1 k1 HT1) | (refine (HoS.out _).mono ?_; rintro e w4 ⟨va2, vc2, rfl, h1, _, k1⟩; have A3 : Hid _ := own_at h1; have HK : Hid _ := HK.out.trans k1; clear h1 k1)) | (go_at_call 19; first | (refine (same_v _ K K a va n l.length c vc B B l l true ((A1.out.calm HK.out).calm ((Keep.refl _ _).alloc _)) (A2.out.calm ((Keep.refl _ _).alloc _)) (Hs1.out va vc)).mono ?_; rintro e w3 ⟨rfl, k1⟩; have HK : Hid _ := (HK.out.alloc _).trans k1; clear k1 g0 g1 g2 A2) | (refine (same_v _ 0 0 va2 none 0 0 vc2 0 ByteArray.empty ByteArray.empty [] [] true (A3.out.calm ((Keep.refl _ _).alloc _)) ⟨rfl, by simp, Nat.zero_le _, .inl rfl⟩ (by simp [M.same])).mono ?_; rintro e w3 ⟨rfl, k1⟩; have HK : Hid _ := (HK.out.alloc _).trans k1; clear k1)) | (go_at_call 11; refine (awake_true _).mono ?_; rintro e w6 ⟨rfl, k1⟩; have HK : Hid _ := HK.out.trans k1; clear k1))
        go_ret
        exact ⟨rfl, Keep.below HK.out (Nat.le_refl _) (fun _ h => h.elim)⟩
      · skip
        obtain ⟨q, hq⟩ : ∃ q, chk K n B = q := ⟨_, rfl⟩
        have hp : pv K n B l = ByteArray.empty := by unfold pv; rw [if_neg hc]
        have hq0 : (q == 0) = false := by rw [beq_eq_false_iff_ne, ← hq]; exact hc
        have Hp : Hid _ := hp
        have Hc : Hid _ := hq
        clear hT hTl hp hq hc hl
        go_enter Try.func5, Try.ntmps5
        go_wp2_with (first | (go_at_call 15; first | (refine (put_any _ K2 _ l2.length _ B2 l2 (A3.out.calm ((Keep.refl _ _).alloc _))).mono ?_; rw [Hp2.out, Hc2.out]; rintro e w5 ⟨rfl, k1⟩; have HK : Hid _ := (HK.out.alloc _).trans k1; clear k1) | (refine (put_any _ K a n c B l (A1.out.calm ((Keep.refl _ _).alloc _))).mono ?_; rw [Hp.out, Hc.out]; rintro e w1 ⟨rfl, k1⟩; have HK : Hid _ := ((Keep.refl (fun _ => False) w).alloc _).trans k1; have HM : Hid _ := k1.get (heap_alloc_new w _) (fun h => h); have HT1 : Hid (0 = 0) := rfl; clear k1)) | (go_at_call 12; (refine (HoS.out _).mono ?_; rintro e w4 ⟨va2, vc2, rfl, h1, _, k1⟩; have A3 : Hid _ := own_at h1; have HK : Hid _ := HK.out.trans k1; clear h1 k1)) | (go_at_call 19; (refine (same_v _ 0 0 va2 none 0 0 vc2 0 ByteArray.empty ByteArray.empty [] [] true (A3.out.calm ((Keep.refl _ _).alloc _)) ⟨rfl, by simp, Nat.zero_le _, .inl rfl⟩ (by simp [M.same])).mono ?_; rintro e w3 ⟨rfl, k1⟩; have HK : Hid _ := (HK.out.alloc _).trans k1; clear k1)) | (go_at_call 11; refine (awake_true _).mono ?_; rintro e w6 ⟨rfl, k1⟩; have HK : Hid _ := HK.out.trans k1; clear k1))
        go_ret
        exact ⟨rfl, Keep.below HK.out (Nat.le_refl _) (fun _ h => h.elim)⟩
  · have hgo' : 60 < n ∨ (n ≤ 60 ∧ 2000 < B.size) ∨ (n ≤ 60 ∧ B.size ≤ 2000 ∧ 3000 < s.size) := by omega
    clear hgo
    rcases hgo' with h | ⟨h, h'⟩ | ⟨h, h', h''⟩
    all_goals
      go_enter Try.func5, Try.ntmps5
      go_wp2_with (first | (go_at_call 11; refine (awake_true _).mono ?_; rintro e w5 ⟨rfl, k1⟩; have K5 : Hid _ := k1; clear k1))
      go_ret
      exact ⟨rfl, Keep.below (((Keep.refl (fun _ => False) w).alloc _).trans K5.out) (Nat.le_refl _) (fun _ h => h.elim)⟩

set_option maxRecDepth 100000 in
theorem own : ownKnob Try.prog.godebug = none := by kernel_rfl
set_option maxRecDepth 100000 in
theorem laidOut : laidOutB Try.prog = true := by kernel_rfl
set_option maxRecDepth 100000 in
theorem contract (H : Type) (enc : TypeId × Value → H) (W : World) (base : Nat) (args : Array Value) (ds gs : List (DataW H)) (before : List MemPlace)
    (hval : ∀ (j : Nat) t v, Try.f5.params[j]? = some t → args[j]? = some v → Value.okWide Try.prog W .any base t v)
    (hW : DataW.Whole enc Try.prog Try.f5.params.toList Rows.msgBackSpec.vars false W args.toList ds gs before) :
    Calls Try.prog 5 args W fun e W' => ∃ v, e = .returned v ∧ Rows.msgBackSpec.post enc Try.prog Try.f5 false true false false W args v W' := by
  have hW' := hW
  obtain ⟨p, q, hA0, hV, rfl, hfz, hnd⟩ := hW
  have hA : DataW.TrodAll enc Try.prog W 0 (fun _ => true) true Try.f5.params.toList args.toList ds p := hA0
  rw [Try.params5] at hA hval
  obtain ⟨rfl, rfl⟩ := trodVars_none hV
  obtain ⟨v0, vs0, d0, ds0, p0, q0, hargs, rfl, rfl, h0, r0⟩ := trodAll_cons hA
  obtain ⟨v1, vs1, d1, ds1, p1, q1, rfl, rfl, rfl, h1, r1⟩ := trodAll_cons r0
  obtain ⟨rfl, rfl, rfl⟩ := trodAll_nil r1
  obtain rfl : args = #[v0, v1] := by cases args; simp_all
  obtain ⟨x, rfl, f0, _⟩ := open_st Try.underlying25 rdM (hval 0 _ v0 rfl rfl) h0
  obtain ⟨s, rfl, rfl, rfl, hs⟩ := open_string Try.underlying9 (hval 1 _ v1 rfl rfl) h1
  refine (walk x.1 x.2.1.a x.2.1.len x.2.1.cap x.2.2.1 s x.2.1.els W f0.1 f0.2 hs).mono fun e W' ⟨he, bel⟩ => ?_
  subst he
  exact ⟨_, rfl, Opn.law_post laidOut (by kernel_rfl) rfl Try.underlying4 rfl rfl hW' bel⟩
set_option maxRecDepth 100000 in
theorem lifted (os : Os) (started : os.Started) (H : Type) (enc : TypeId × Value → H) :
    ReturnsInHanded {} Try.checked os 5 .any (Rows.msgBackSpec.pre6 enc Try.prog Try.f5 Rows.msgBackRow.domain false) (Rows.msgBackSpec.post enc Try.prog Try.f5 false true false false) := by
  refine returnsInHanded_of_change (C := Try.checked) own started (by kernel_rfl) Try.func5
    (ChangeSpec.witness6 (enc := enc) (C := Try.checked) false ⟨#[], #[.agg #[.int .i64 0, .slice none 0 0, .string .empty], .string .empty], []⟩ 8 (by kernel_rfl) (by kernel_rfl) (by kernel_rfl) (by kernel_rfl)) ?_
  intro W base args ds gs before hval0 hW hcnd _
  exact contract H enc W base args ds gs before hval0 hW
theorem over : Rows.msgBackRow.holds Try.pinned (OpenSpec.ofChange Rows.msgBackSpec) :=
  OpenClaim.holds_of_wide 5 Try.f5 rfl rfl rfl rfl rfl rfl rfl ⟨rfl, rfl, rfl, rfl, rfl⟩ rfl rfl rfl rfl rfl (by kernel_rfl) Try.func5 (by kernel_rfl)
    (of_decide_eq_true (by kernel_rfl)) (by unfold Func.isWrapper; first | (rw [if_pos (by decide +kernel)]; kernel_rfl) | (rw [if_neg (by decide +kernel)]; exact ⟨rfl, rfl⟩))
    (fun os started H enc _ => lifted os started H enc)
theorem proved : Rows.MsgBackSaid := over
end MsgBack
end Go.Proofs.Ytmnmemeldjbifaa
