/-
  'petrellaw25.SeqLoads': any bytes, or why they are none; what is loaded, put again, is the bytes. For every input.
-/
import Derived.Test.YtgpimeobkacniaaSqK
import Derived.Test.YtgpimeobkacniaaOpnU
set_option linter.unusedVariables false
set_option linter.unusedSimpArgs false
namespace Go.Proofs.Ytgpimeobkacniaa
open Go.RowKit Go.ChangeShapes Go.WideShapes Go.ChangeAt
open Go.ChangeMaps (open_string)
namespace SeqLoads
open Oct Ids Sq
open Mem (M It blk ids rows)
theorem gon_self {G : List Wd} (h : IdL.Srt G) : Gon G G := ⟨h, fun _ => Iff.rfl, IdL.srt_nodup h⟩
theorem lst_same {X : List Dn} {N : Nds} {B : Bhs} {G Gd : List Wd} {O : List Dn} (hi : Inv N B) (ha : Alk X N) (hO : OrdD X N B O) (hg : Gon G Gd) : lstD Gd O = lst N G (ordr N B) := by
  unfold lstD lst
  rw [← hO.eq, List.filter_map, List.map_map]
  have e : O.filter (fun d => decide (d.u ∉ Gd)) = O.filter ((fun y => decide (y ∉ G)) ∘ fun x : Dn => x.u) := List.filter_congr fun d _ => by
    simp only [Function.comp, hg.mem]
  rw [e]
  refine List.map_congr_left fun d hd => ?_
  have hdX := hO.sub d (List.mem_filter.1 hd).1
  show d.x.v = vN N d.u
  unfold vN
  rw [fget_of hi.nk (ha.mem hdX)]
  rfl
theorem ptr_nil (w : World) (b : Nat) : Sem.run Try.prog (binOp .eql 25 (.pointer (some ⟨b, 0, none⟩)) (.pointer none)) w = .ok (.bool false) w := by
  go_simp
theorem split_ld {w w' : World} {s : ByteArray} {L : List Dn} {G : List Wd} {a : Nat} {b v : Int} {p : Value} (hV : LdV s L G a b v) (hn : v ≠ 0 → p = .pointer none) (hz : v = 0 → ∃ (b : Nat) (bn bb bg : Nat) (N : Nds) (B : Bhs), p = .pointer (some ⟨b, 0, none⟩) ∧ M (fun _ => False) w w' [sqI b bn bb bg N B G] ∧ Inv N B ∧ Alk L N) :
    (v = 0 ∧ ∃ (q : Nat) (bn bb bg : Nat) (N : Nds) (B : Bhs), p = .pointer (some ⟨q, 0, none⟩) ∧ M (fun _ => False) w w' [sqI q bn bb bg N B G] ∧ Inv N B ∧ Alk L N ∧ LdV s L G a b 0) ∨ (v ≠ 0 ∧ p = .pointer none) := by
  by_cases h : v = 0
  · obtain ⟨q, bn, bb, bg, N, B, h1, h2, h3, h4⟩ := hz h
    exact .inl ⟨h, q, bn, bb, bg, N, B, h1, h2, h3, h4, h ▸ hV⟩
  · exact .inr ⟨h, hn h⟩
theorem neg_of {w w' : World} {s : ByteArray} {e : Ending} {L : List Dn} {G : List Wd} {a : Nat} {b v : Int} (h : QLdPost w s e w') (hR : RdA s L G a b) (hV : LdV s L G a b v) (hv : v ≠ 0) : e = .returned (.tuple #[.pointer none, .int .i64 v]) ∧ Keep (fun _ => False) w w' := by
  obtain ⟨L2, G2, a2, b2, v2, p2, he, hR2, hV2, k2, hn2, hz2⟩ := h
  obtain ⟨rfl, rfl, rfl, rfl⟩ := hR2.uniq hR
  obtain rfl := hV2.uniq hV
  rw [hn2 hv] at he
  exact ⟨he, k2⟩
theorem pos_of {w w' : World} {s : ByteArray} {e : Ending} {L : List Dn} {G : List Wd} {a : Nat} {b : Int} (h : QLdPost w s e w') (hR : RdA s L G a b) (hV : LdV s L G a b 0) : ∃ (q : Nat) (lv gv : Value), e = .returned (.tuple #[.pointer (some ⟨q, 0, none⟩), .int .i64 0]) ∧ M (fun _ => False) w w' [xsI q lv gv L G] := by
  obtain ⟨L2, G2, a2, b2, v2, p2, he, hR2, hV2, k2, hn2, hz2⟩ := h
  obtain ⟨rfl, rfl, rfl, rfl⟩ := hR2.uniq hR
  obtain rfl := hV2.uniq hV
  obtain ⟨q, lv, gv, hp, m⟩ := hz2 rfl
  rw [hp] at he
  exact ⟨q, lv, gv, he, m⟩
set_option maxRecDepth 100000 in
set_option maxHeartbeats 16000000 in
theorem walk (s : ByteArray) (hs : s.size ≤ maxLen) (w : World) :
    Calls Try.prog 9 #[.string s] w fun e w' => e = .returned (.bool true) ∧ Below w.heap.size w w' := by
  have HM : Hid (M (fun _ => False) w w []) := M.start _ w
  unfold maxLen at hs
  go_enter Try.func9, Try.ntmps9
  by_cases hbig : 3000 < s.size
  · go_wp2_with (first | (go_at_call 12; refine (awakeS _).mono ?_; rintro e w9 ⟨rfl, k9⟩; have HM : Hid _ := HM.out.calm k9; clear k9))
    go_ret
    exact ⟨rfl, Keep.below HM.out.keep (Nat.le_refl _) (fun _ h => h.elim)⟩
  have H3 : Hid (s.size ≤ 3000) := by show _ ≤ _; omega
  have HLo : Hid (∀ w, Calls Try.prog 46 #[.string s] w (SLdPost w s)) := fun w => sload_any w s (by have := H3.out; omega)
  have HQo : Hid (∀ w, Calls Try.prog 47 #[.string s] w (QLdPost w s)) := fun w => qload_any w s (by have := H3.out; omega)
  go_wp2_with (first | (go_at_call 46; refine (HLo.out _).mono ?_; rintro e w1 ⟨L, G, a, b0, v, p, rfl, hR, hV, k1, hn, hz⟩; have HR : Hid (RdA s L G a b0) := hR; rcases split_ld hV hn hz with ⟨rfl, b, bn, bb, bg, N, B, rfl, m1, hi, ha, hVz⟩ | ⟨hv, rfl⟩ <;> (first | (have HM : Hid (M (fun _ => False) w w1 [sqI b bn bb bg N B G]) := widen m1 HM.out.keep (fun j hj => hj.elim); have HI : Hid (Inv N B) := hi; have HA : Hid (Alk L N) := ha; have HV : Hid (LdV s L G a b0 0) := hVz; clear m1 hi ha hVz hR hV hn hz k1) | (have HM : Hid _ := HM.out.calm k1; have Hv : Hid (v ≠ 0) := hv; have HV : Hid (LdV s L G a b0 v) := hV; have hvb : (v != 0) = true := (by simpa using hv); clear hR hV hn hz k1 hv))) | (go_at_call 47; first | (refine ((HQo.out _).mono (fun e w' h => pos_of h HR.out HV.out)).mono ?_; rintro e w2 ⟨bx, lv, gv, rfl, m2⟩; have HM : Hid (M (fun _ => False) w w2 [sqI b bn bb bg N B G, xsI bx lv gv L G]) := M.app1 HM.out m2; clear m2) | (refine ((HQo.out _).mono (fun e w' h => neg_of h HR.out HV.out Hv.out)).mono ?_; rintro e w2 ⟨rfl, k2⟩; have HM : Hid _ := HM.out.calm k2; clear k2)) | (go_at_call 12; refine (awakeS _).mono ?_; rintro e w9 ⟨rfl, k9⟩; have HM : Hid _ := HM.out.calm k9; clear k9))
  rotate_left
  · go_ret
    exact ⟨rfl, Keep.below HM.out.keep (Nat.le_refl _) (fun _ h => h.elim)⟩
  obtain ⟨hL5, hG9⟩ := HR.out.bound (by have := H3.out; omega)
  obtain ⟨_, hck, _, hsL, hsG⟩ := HV.out.zero
  have HL5 : Hid (L.length ≤ 1000) := by show _ ≤ _; omega
  have HG9 : Hid (G.length ≤ 1000) := by show _ ≤ _; omega
  have HNl : Hid (N.length ≤ 1000) := by show _ ≤ _; rw [← HA.out.len]; exact HL5.out
  have HPu : Hid (∀ w1, SqAt w1 b bn bb bg N B G → Calls Try.prog 43 #[.pointer (some ⟨b, 0, none⟩)] w1 (SPutPost w1 b bn bb bg N B G s)) := fun w1 h1 => by
    have := sput_any w1 b bn bb bg N B G h1 HI.out HNl.out HG9.out L G HA.out (gon_self hsG)
    rwa [put_of_rd HR.out HV.out] at this
  obtain ⟨l, hl⟩ : ∃ l, lst N G (ordr N B) = l := ⟨_, rfl⟩
  have HLs : Hid (∀ w1, SqAt w1 b bn bb bg N B G → Calls Try.prog 40 #[.pointer (some ⟨b, 0, none⟩)] w1 (LstPost w1 b bn bb bg N B G l)) := fun w1 h1 => by
    have := slist_any w1 b bn bb bg N B G h1 (fun r => Nat.le_trans (HI.out.row_len r) HNl.out) N.length HI.out.dep (Nat.le_trans (HI.out.pre_len _) (by have := HNl.out; omega))
    rwa [show pre (rowsB B) (N.length + 1) Zi = ordr N B from rfl, hl] at this
  have HLe : Hid (∀ O, OrdD L N B O → lstD G O = l) := fun O hO => by rw [lst_same HI.out HA.out hO (gon_self hsG), hl]
  clear hL5 hG9 hck hsL hsG hl
  go_wp2_with (first | (go_at_call 43; refine (HPu.out _ (HM.out.get 0 rfl)).mono ?_; rintro e w3 ⟨rfl, t3⟩; have HM : Hid (M (fun _ => False) w w3 [sqI b bn bb bg N B G, xsI bx lv gv L G]) := M.sto HM.out 0 rfl t3; clear t3) | (go_at_call 40; refine (HLs.out _ (HM.out.get 0 rfl)).mono ?_; rintro e w4 ⟨v4, rfl, m4⟩; have HM : Hid (M (fun _ => False) w w4 [sqI b bn bb bg N B G, xsI bx lv gv L G, rP v4 l]) := two HM.out 0 rfl m4; clear m4; obtain ⟨a4, c4, e4, _⟩ := (show St.Own 92 2 pe w4 v4 l from HM.out.get 2 rfl).any; subst e4) | (go_at_call 41; refine (qlist_any _ bx lv gv L G (HM.out.get 1 rfl) HL5.out HG9.out N B HI.out HA.out).mono ?_; rintro e w5 ⟨O2, v5, hO2, rfl, n5⟩; rw [HLe.out O2 hO2] at n5; have HM : Hid (M (fun _ => False) w w5 [sqI b bn bb bg N B G, xsI bx lv gv L G, rP (.slice a4 l.length c4) l, rP v5 l]) := M.newr HM.out n5; clear n5 hO2; obtain ⟨a5, c5, e5, _⟩ := (show St.Own 92 2 pe w5 v5 l from HM.out.get 3 rfl).any; subst e5) | (go_at_call 31; refine (pairs_same _ a4 a5 l.length c4 c5 l (own_sl (HM.out.get 2 rfl)).2 (own_sl (HM.out.get 3 rfl)).2).mono ?_; rintro e w6 ⟨rfl, k6⟩; have HM : Hid _ := HM.out.calm k6; clear k6) | (go_at_call 12; refine (awakeS _).mono ?_; rintro e w9 ⟨rfl, k9⟩; have HM : Hid _ := HM.out.calm k9; clear k9))
  go_ret
  exact ⟨rfl, Keep.below HM.out.keep (Nat.le_refl _) (fun _ h => h.elim)⟩
set_option maxRecDepth 100000 in
theorem own : ownKnob Try.prog.godebug = none := by kernel_rfl
set_option maxRecDepth 100000 in
theorem laidOut : laidOutB Try.prog = true := by kernel_rfl
set_option maxRecDepth 100000 in
theorem contract (H : Type) (enc : TypeId × Value → H) (W : World) (base : Nat) (args : Array Value) (ds gs : List (DataW H)) (before : List MemPlace)
    (hval : ∀ (j : Nat) t v, Try.f9.params[j]? = some t → args[j]? = some v → Value.okWide Try.prog W .any base t v)
    (hW : DataW.Whole enc Try.prog Try.f9.params.toList Rows.seqLoadsSpec.vars false W args.toList ds gs before) :
    Calls Try.prog 9 args W fun e W' => ∃ v, e = .returned v ∧ Rows.seqLoadsSpec.post enc Try.prog Try.f9 false true false false W args v W' := by
  have hW' := hW
  obtain ⟨p, q, hA0, hV, rfl, hfz, hnd⟩ := hW
  have hA : DataW.TrodAll enc Try.prog W 0 (fun _ => true) true Try.f9.params.toList args.toList ds p := hA0
  rw [Try.params9] at hA hval
  obtain ⟨rfl, rfl⟩ := trodVars_none hV
  obtain ⟨v0, vs0, d0, ds0, p0, q0, hargs, rfl, rfl, h0, r0⟩ := trodAll_cons hA
  obtain ⟨rfl, rfl, rfl⟩ := trodAll_nil r0
  obtain rfl : args = #[v0] := by cases args; simp_all
  obtain ⟨s, rfl, rfl, rfl, hs⟩ := open_string Try.underlying9 (hval 0 _ v0 rfl rfl) h0
  refine (walk s hs W).mono fun e W' ⟨he, bel⟩ => ?_
  subst he
  exact ⟨_, rfl, Opn.law_post laidOut (by kernel_rfl) rfl Try.underlying4 rfl rfl hW' bel⟩
set_option maxRecDepth 100000 in
theorem lifted (os : Os) (started : os.Started) (H : Type) (enc : TypeId × Value → H) :
    ReturnsInHanded {} Try.checked os 9 .any (Rows.seqLoadsSpec.pre6 enc Try.prog Try.f9 Rows.seqLoadsRow.domain false) (Rows.seqLoadsSpec.post enc Try.prog Try.f9 false true false false) := by
  refine returnsInHanded_of_change (C := Try.checked) own started (by kernel_rfl) Try.func9
    (ChangeSpec.witness6 (enc := enc) (C := Try.checked) false ⟨#[], #[.string ByteArray.empty], []⟩ 8 (by kernel_rfl) (by kernel_rfl) (by kernel_rfl) (by kernel_rfl)) ?_
  intro W base args ds gs before hval0 hW hcnd _
  exact contract H enc W base args ds gs before hval0 hW
theorem over : Rows.seqLoadsRow.holds Try.pinned (OpenSpec.ofChange Rows.seqLoadsSpec) :=
  OpenClaim.holds_of_wide 9 Try.f9 rfl rfl rfl rfl rfl rfl rfl ⟨rfl, rfl, rfl, rfl, rfl⟩ rfl rfl rfl rfl rfl (by kernel_rfl) Try.func9 (by kernel_rfl)
    (of_decide_eq_true (by kernel_rfl)) (by unfold Func.isWrapper; first | (rw [if_pos (by decide +kernel)]; kernel_rfl) | (rw [if_neg (by decide +kernel)]; exact ⟨rfl, rfl⟩))
    (fun os started H enc _ => lifted os started H enc)
theorem proved : Rows.SeqLoadsSaid := over
end SeqLoads
end Go.Proofs.Ytgpimeobkacniaa
