/-
  'petrellaw24.MultiLoads': any bytes, or why they are none; what is loaded, put again, is the bytes. For every input.
-/
import Derived.Test.YtgpimeobkacniaaGreatGMe
import Derived.Test.YtgpimeobkacniaaGreatOpnU
set_option linter.unusedVariables false
set_option linter.unusedSimpArgs false
namespace Go.Proofs.YtgpimeobkacniaaGreat
open Go.RowKit Go.ChangeShapes Go.WideShapes Go.ChangeAt
open Go.ChangeMaps (open_string)
namespace MultiLoads
open Oct Ids Mu
open Sq (own_idat two widen own_sl)
open Mem (M It blk ids rows)
theorem split_ld {w w' : World} {s : ByteArray} {L : List Wr} {G : List Wd} {a : Nat} {b v : Int} {p : Value} (hV : LwV s L G a b v) (hn : v ≠ 0 → p = .pointer none) (hz : v = 0 → ∃ (b bl bo : Nat) (Lm : List Wr), p = .pointer (some ⟨b, 0, none⟩) ∧ M (fun _ => False) w w' [muI b bl bo Lm (addGs [] G)] ∧ Lm.Nodup ∧ ∀ x, x ∈ Lm ↔ x ∈ L) :
    (v = 0 ∧ ∃ (q bl bo : Nat) (Lm : List Wr), p = .pointer (some ⟨q, 0, none⟩) ∧ M (fun _ => False) w w' [muI q bl bo Lm (addGs [] G)] ∧ Lm.Nodup ∧ (∀ x, x ∈ Lm ↔ x ∈ L) ∧ LwV s L G a b 0) ∨ (v ≠ 0 ∧ p = .pointer none) := by
  by_cases h : v = 0
  · obtain ⟨q, bl, bo, Lm, h1, h2, h3, h4⟩ := hz h
    exact .inl ⟨h, q, bl, bo, Lm, h1, h2, h3, h4, h ▸ hV⟩
  · exact .inr ⟨h, hn h⟩
theorem neg_of {w w' : World} {s : ByteArray} {e : Ending} {L : List Wr} {G : List Wd} {a : Nat} {b v : Int} (h : XLdPost w s e w') (hR : RwA s L G a b) (hV : LwV s L G a b v) (hv : v ≠ 0) : e = .returned (.tuple #[.pointer none, .int .i64 v]) ∧ Keep (fun _ => False) w w' := by
  obtain ⟨L2, G2, a2, b2, v2, p2, he, hR2, hV2, k2, hn2, hz2⟩ := h
  obtain ⟨rfl, rfl, rfl, rfl⟩ := hR2.uniq hR
  obtain rfl := hV2.uniq hV
  rw [hn2 hv] at he
  exact ⟨he, k2⟩
theorem pos_of {w w' : World} {s : ByteArray} {e : Ending} {L : List Wr} {G : List Wd} {a : Nat} {b : Int} (h : XLdPost w s e w') (hR : RwA s L G a b) (hV : LwV s L G a b 0) : ∃ (q : Nat) (lv gv : Value), e = .returned (.tuple #[.pointer (some ⟨q, 0, none⟩), .int .i64 0]) ∧ M (fun _ => False) w w' [mxI q lv gv L G] := by
  obtain ⟨L2, G2, a2, b2, v2, p2, he, hR2, hV2, k2, hn2, hz2⟩ := h
  obtain ⟨rfl, rfl, rfl, rfl⟩ := hR2.uniq hR
  obtain rfl := hV2.uniq hV
  obtain ⟨q, lv, gv, hp, m⟩ := hz2 rfl
  rw [hp] at he
  exact ⟨q, lv, gv, he, m⟩
set_option maxRecDepth 100000 in
set_option maxHeartbeats 16000000 in
theorem walk (s : ByteArray) (hs : s.size ≤ maxLen) (w : World) :
    Calls Tryz.prog 3 #[.string s] w fun e w' => e = .returned (.bool true) ∧ Below w.heap.size w w' := by
  have HM : Hid (M (fun _ => False) w w []) := M.start _ w
  unfold maxLen at hs
  go_enter Tryz.func3, Tryz.ntmps3
  by_cases hbig : 3000 < s.size
  · go_wp2_with (first | (go_at_call 4; refine (awakeM _).mono ?_; rintro e w9 ⟨rfl, k9⟩; have HM : Hid _ := HM.out.calm k9; clear k9))
    go_ret
    exact ⟨rfl, Keep.below HM.out.keep (Nat.le_refl _) (fun _ h => h.elim)⟩
  have H3 : Hid (s.size ≤ 3000) := by show _ ≤ _; omega
  have HLo : Hid (∀ w, Calls Tryz.prog 5 #[.string s] w (WLdPost w s)) := fun w => wload_any w s (by have := H3.out; omega)
  have HQo : Hid (∀ w, Calls Tryz.prog 6 #[.string s] w (XLdPost w s)) := fun w => xload_any w s (by have := H3.out; omega)
  go_wp2_with (first | (go_at_call 5; refine (HLo.out _).mono ?_; rintro e w1 ⟨L, G, a, b0, v, p, rfl, hR, hV, k1, hn, hz⟩; have HR : Hid (RwA s L G a b0) := hR; rcases split_ld hV hn hz with ⟨rfl, b, bl, bo, Lm, rfl, m1, hi, ha, hVz⟩ | ⟨hv, rfl⟩ <;> (first | (have HM : Hid (M (fun _ => False) w w1 [muI b bl bo Lm (addGs [] G)]) := widen m1 HM.out.keep (fun j hj => hj.elim); have HI : Hid (Lm.Nodup) := hi; have HA : Hid (∀ x, x ∈ Lm ↔ x ∈ L) := ha; have HV : Hid (LwV s L G a b0 0) := hVz; clear m1 hi ha hVz hR hV hn hz k1) | (have HM : Hid _ := HM.out.calm k1; have Hv : Hid (v ≠ 0) := hv; have HV : Hid (LwV s L G a b0 v) := hV; have hvb : (v != 0) = true := (by simpa using hv); clear hR hV hn hz k1 hv))) | (go_at_call 6; first | (refine ((HQo.out _).mono (fun e w' h => pos_of h HR.out HV.out)).mono ?_; rintro e w2 ⟨bx, lv, gv, rfl, m2⟩; have HM : Hid (M (fun _ => False) w w2 [muI b bl bo Lm (addGs [] G), mxI bx lv gv L G]) := M.app1 HM.out m2; clear m2) | (refine ((HQo.out _).mono (fun e w' h => neg_of h HR.out HV.out Hv.out)).mono ?_; rintro e w2 ⟨rfl, k2⟩; have HM : Hid _ := HM.out.calm k2; clear k2)) | (go_at_call 4; refine (awakeM _).mono ?_; rintro e w9 ⟨rfl, k9⟩; have HM : Hid _ := HM.out.calm k9; clear k9))
  rotate_left
  · go_ret
    exact ⟨rfl, Keep.below HM.out.keep (Nat.le_refl _) (fun _ h => h.elim)⟩
  obtain ⟨hL5, hG9⟩ := HR.out.bound (by have := H3.out; omega)
  obtain ⟨_, hsm, hfi⟩ := HV.out.zero
  have HL5 : Hid (L.length ≤ 1000) := by show _ ≤ _; omega
  have HG9 : Hid (G.length ≤ 1000) := by show _ ≤ _; omega
  have hLm : Lm.length ≤ L.length := nodup_len HI.out (fun y hy => (HA.out y).1 hy)
  have HLm : Hid (Lm.length ≤ 900) := by show _ ≤ _; omega
  have hO : ∀ u, u ∈ addGs [] G ↔ u ∈ G := fun u => by rw [mem_addGs]; simp
  have hOl : (addGs [] G).length ≤ 1000 := by have := addGs_len G []; simp at this; omega
  have HPu : Hid (∀ w1, MuAt w1 b bl bo Lm (addGs [] G) → Calls Tryz.prog 7 #[.pointer (some ⟨b, 0, none⟩)] w1 fun e w' => e = .returned (.string s) ∧ MTo w1 w' b bl bo Lm (addGs [] G)) := fun w1 h1 =>
    (mput_any w1 b bl bo Lm (addGs [] G) h1 HI.out (by have := HLm.out; omega) (fun x hx => hsm x ((HA.out x).1 hx)) hOl G (fun K hK => by
      rw [show IdL.setL K = IdL.setL G from IdL.setL_congr (fun u => by rw [hK, hO])]
      exact IdL.setL_self hfi.2.2.1)).mono fun e w' ⟨⟨X, he, h2, h3, _⟩, ht⟩ => by
        obtain rfl : X = L := Sq.pw_unique ltW_asym X L h2 hfi.2.1 (fun x => by rw [h3, HA.out])
        rw [put_of_rd HR.out HV.out] at he
        exact ⟨he, ht⟩
  obtain ⟨l, hl⟩ : ∃ l, srtP (L.map kv) = l := ⟨_, rfl⟩
  have HLs : Hid (∀ w1, MuAt w1 b bl bo Lm (addGs [] G) → Calls Tryz.prog 9 #[.pointer (some ⟨b, 0, none⟩)] w1 fun e w' => ∃ v, e = .returned v ∧ M (mfoot b bl bo) w1 w' [muI b bl bo Lm (addGs [] G), rP v l]) := fun w1 h1 =>
    (mlist_any w1 b bl bo Lm (addGs [] G) h1 HI.out (by have := HLm.out; omega)).mono fun e w' ⟨v, l2, he, hM, h2, h3, _⟩ => by
      rw [srtP_is (L := L.map kv) h2 (fun p => by rw [h3, mem_kv]; exact ⟨fun ⟨x, g1, g2⟩ => ⟨x, (HA.out x).1 g1, g2⟩, fun ⟨x, g1, g2⟩ => ⟨x, (HA.out x).2 g1, g2⟩⟩), hl] at hM
      exact ⟨v, he, hM⟩
  have HXl : Hid (∀ w1 bx lv gv, MxAt w1 bx lv gv L G → Calls Tryz.prog 10 #[.pointer (some ⟨bx, 0, none⟩)] w1 fun e w' => ∃ v, e = .returned v ∧ M (fun _ => False) w1 w' [rP v l]) := fun w1 bx lv gv h1 =>
    (xlist_any w1 bx lv gv L G h1 HL5.out HG9.out).mono fun e w' ⟨v, l2, he, hM, h2, h3, _⟩ => by
      rw [srtP_is (L := L.map kv) h2 (fun p => by rw [h3, mem_kv]; exact ⟨fun ⟨x, g1, g2⟩ => ⟨x, g1.1, g2⟩, fun ⟨x, g1, g2⟩ => ⟨x, ⟨g1, hfi.2.2.2 x g1⟩, g2⟩⟩), hl] at hM
      exact ⟨v, he, hM⟩
  clear hL5 hG9 hsm hfi hLm hO hOl hl
  go_wp2_with (first | (go_at_call 7; refine (HPu.out _ (HM.out.get 0 rfl)).mono ?_; rintro e w3 ⟨rfl, t3⟩; have HM : Hid (M (fun _ => False) w w3 [muI b bl bo Lm (addGs [] G), mxI bx lv gv L G]) := M.mto HM.out 0 rfl t3; clear t3) | (go_at_call 9; refine (HLs.out _ (HM.out.get 0 rfl)).mono ?_; rintro e w4 ⟨v4, rfl, m4⟩; have HM : Hid (M (fun _ => False) w w4 [muI b bl bo Lm (addGs [] G), mxI bx lv gv L G, rP v4 l]) := two HM.out 0 rfl m4; clear m4; obtain ⟨a4, c4, e4, _⟩ := (show OwnP w4 v4 l from HM.out.get 2 rfl).any; subst e4) | (go_at_call 10; refine (HXl.out _ bx lv gv (HM.out.get 1 rfl)).mono ?_; rintro e w5 ⟨v5, rfl, m5⟩; have HM : Hid (M (fun _ => False) w w5 [muI b bl bo Lm (addGs [] G), mxI bx lv gv L G, rP (.slice a4 l.length c4) l, rP v5 l]) := M.app1 HM.out m5; clear m5; obtain ⟨a5, c5, e5, _⟩ := (show OwnP w5 v5 l from HM.out.get 3 rfl).any; subst e5) | (go_at_call 8; refine (ppairs_same _ a4 a5 l.length c4 c5 l (own_sl (HM.out.get 2 rfl)).2 (own_sl (HM.out.get 3 rfl)).2).mono ?_; rintro e w6 ⟨rfl, k6⟩; have HM : Hid _ := HM.out.calm k6; clear k6) | (go_at_call 4; refine (awakeM _).mono ?_; rintro e w9 ⟨rfl, k9⟩; have HM : Hid _ := HM.out.calm k9; clear k9))
  go_ret
  exact ⟨rfl, Keep.below HM.out.keep (Nat.le_refl _) (fun _ h => h.elim)⟩
set_option maxRecDepth 100000 in
theorem own : ownKnob Tryz.prog.godebug = none := by kernel_rfl
set_option maxRecDepth 100000 in
theorem laidOut : laidOutB Tryz.prog = true := by kernel_rfl
set_option maxRecDepth 100000 in
theorem contract (H : Type) (enc : TypeId × Value → H) (W : World) (base : Nat) (args : Array Value) (ds gs : List (DataW H)) (before : List MemPlace)
    (hval : ∀ (j : Nat) t v, Tryz.f3.params[j]? = some t → args[j]? = some v → Value.okWide Tryz.prog W .any base t v)
    (hW : DataW.Whole enc Tryz.prog Tryz.f3.params.toList Rows.multiLoadsSpec.vars false W args.toList ds gs before) :
    Calls Tryz.prog 3 args W fun e W' => ∃ v, e = .returned v ∧ Rows.multiLoadsSpec.post enc Tryz.prog Tryz.f3 false true false false W args v W' := by
  have hW' := hW
  obtain ⟨p, q, hA0, hV, rfl, hfz, hnd⟩ := hW
  have hA : DataW.TrodAll enc Tryz.prog W 0 (fun _ => true) true Tryz.f3.params.toList args.toList ds p := hA0
  rw [Tryz.params3] at hA hval
  obtain ⟨rfl, rfl⟩ := trodVars_none hV
  obtain ⟨v0, vs0, d0, ds0, p0, q0, hargs, rfl, rfl, h0, r0⟩ := trodAll_cons hA
  obtain ⟨rfl, rfl, rfl⟩ := trodAll_nil r0
  obtain rfl : args = #[v0] := by cases args; simp_all
  obtain ⟨s, rfl, rfl, rfl, hs⟩ := open_string Tryz.underlying9 (hval 0 _ v0 rfl rfl) h0
  refine (walk s hs W).mono fun e W' ⟨he, bel⟩ => ?_
  subst he
  exact ⟨_, rfl, Opn.law_post laidOut (by kernel_rfl) rfl Tryz.underlying4 rfl rfl hW' bel⟩
set_option maxRecDepth 100000 in
theorem lifted (os : Os) (started : os.Started) (H : Type) (enc : TypeId × Value → H) :
    ReturnsInHanded {} Tryz.checked os 3 .any (Rows.multiLoadsSpec.pre6 enc Tryz.prog Tryz.f3 Rows.multiLoadsRow.domain false) (Rows.multiLoadsSpec.post enc Tryz.prog Tryz.f3 false true false false) := by
  refine returnsInHanded_of_change (C := Tryz.checked) own started (by kernel_rfl) Tryz.func3
    (ChangeSpec.witness6 (enc := enc) (C := Tryz.checked) false ⟨#[], #[.string ByteArray.empty], []⟩ 8 (by kernel_rfl) (by kernel_rfl) (by kernel_rfl) (by kernel_rfl)) ?_
  intro W base args ds gs before hval0 hW hcnd _
  exact contract H enc W base args ds gs before hval0 hW
theorem over : Rows.multiLoadsRow.holds Tryz.pinned (OpenSpec.ofChange Rows.multiLoadsSpec) :=
  OpenClaim.holds_of_wide 3 Tryz.f3 rfl rfl rfl rfl rfl rfl rfl ⟨rfl, rfl, rfl, rfl, rfl⟩ rfl rfl rfl rfl rfl (by kernel_rfl) Tryz.func3 (by kernel_rfl)
    (of_decide_eq_true (by kernel_rfl)) (by unfold Func.isWrapper; first | (rw [if_pos (by decide +kernel)]; kernel_rfl) | (rw [if_neg (by decide +kernel)]; exact ⟨rfl, rfl⟩))
    (fun os started H enc _ => lifted os started H enc)
theorem proved : Rows.MultiLoadsSaid := over
end MultiLoads
end Go.Proofs.YtgpimeobkacniaaGreat
