/-
  'petrellaw24.MultiPlays': whatever is written, and overwritten: all values that count, of each key, their ids, as bytes. For every input.
-/
import Derived.Test.YtgpimeobkacniaaGMe
import Derived.Test.YtgpimeobkacniaaOpnU
set_option linter.unusedVariables false
set_option linter.unusedSimpArgs false
namespace Go.Proofs.Ytgpimeobkacniaa
open Go.RowKit Go.ChangeShapes Go.WideShapes Go.ChangeAt
open Go.ChangeMaps (open_string)
namespace MultiPlays
open Oct Ids Mu
open Sq (at_load at_alloc at_store own_idat two widen own_sl)
open Mem (M It blk ids rows)
def sX (X : List Wr) (a : Ac) : List Wr := if cdW a.x = 0 then X ++ [a.x] else X
def sG (G : List Wd) (a : Ac) : List Wd := if cdW a.x = 0 then IdL.setL (G ++ a.ov) else G
/-- What the document holds behind these calls. -/
structure Xb (C : List Ac) (X : List Wr) (G : List Wd) : Prop where
  xm : ∀ y, y ∈ X ↔ ∃ a ∈ C, cdW a.x = 0 ∧ y = a.x
  gm : ∀ u, u ∈ G ↔ ∃ a ∈ C, cdW a.x = 0 ∧ u ∈ a.ov
  xl : X.length ≤ C.length
  gl : G.length ≤ 12 * C.length
theorem Xb.nil : Xb [] [] [] := ⟨fun y => by simp, fun u => by simp, Nat.le_refl _, Nat.le_refl _⟩
theorem ex_snoc {C : List Ac} {a : Ac} {p : Ac → Prop} : (∃ b ∈ C ++ [a], p b) ↔ (∃ b ∈ C, p b) ∨ p a := by
  constructor
  · rintro ⟨b, hb, h⟩
    rcases List.mem_append.1 hb with hb | hb
    · exact .inl ⟨b, hb, h⟩
    · rw [List.mem_singleton.1 hb] at h; exact .inr h
  · rintro (⟨b, hb, h⟩ | h)
    · exact ⟨b, List.mem_append_left _ hb, h⟩
    · exact ⟨a, by simp, h⟩
theorem Xb.step {C : List Ac} {X : List Wr} {G : List Wd} (h : Xb C X G) (a : Ac) (h12 : a.ov.length ≤ 12) : Xb (C ++ [a]) (sX X a) (sG G a) := by
  unfold sX sG
  by_cases hc : cdW a.x = 0
  · rw [if_pos hc, if_pos hc]
    refine ⟨fun y => ?_, fun u => ?_, ?_, ?_⟩
    · rw [ex_snoc, List.mem_append, List.mem_singleton, h.xm]
      exact or_congr_right ⟨fun e => ⟨hc, e⟩, fun e => e.2⟩
    · rw [ex_snoc, IdL.mem_setL, List.mem_append, h.gm]
      exact or_congr_right ⟨fun e => ⟨hc, e⟩, fun e => e.2⟩
    · have := h.xl; simp; omega
    · have h1 := IdL.setL_len (G ++ a.ov)
      have := h.gl
      simp at h1 ⊢
      omega
  · rw [if_neg hc, if_neg hc]
    refine ⟨fun y => ?_, fun u => ?_, ?_, ?_⟩
    · rw [ex_snoc, h.xm]
      exact ⟨.inl, fun e => e.elim id (fun e => absurd e.1 hc)⟩
    · rw [ex_snoc, h.gm]
      exact ⟨.inl, fun e => e.elim id (fun e => absurd e.1 hc)⟩
    · have := h.xl; simp; omega
    · have := h.gl; simp; omega
section
variable {C : List Ac} {L X : List Wr} {O G : List Wd}
theorem Xb.og (h : Xb C X G) (ho : Ob C L O) (u : Wd) : u ∈ G ↔ u ∈ O := by rw [h.gm, ho.om]
theorem Xb.lx (h : Xb C X G) (ho : Ob C L O) (y : Wr) : y ∈ L ↔ y ∈ X ∧ y.u ∉ G := by rw [ho.mem, h.xm, h.og ho]
theorem Xb.small (h : Xb C X G) : Small X := fun x hx => by
  obtain ⟨a, _, hc, rfl⟩ := (h.xm x).1 hx
  unfold cdW at hc
  split at hc
  · cases hc
  · omega
end
theorem xset_to {w w' : World} {b : Nat} {lv gv : Value} {X : List Wr} {G : List Wd} {a : Ac} {e : Ending} (h : XSetPost w b lv gv X G a.x a.ov e w') : e = .returned (.int .i64 (cdW a.x)) ∧ ∃ lv' gv', MXTo w w' b lv gv lv' gv' (sX X a) (sG G a) := by
  obtain ⟨h1, h2, h3⟩ := h
  refine ⟨h1, ?_⟩
  unfold sX sG
  by_cases hc : cdW a.x = 0
  · rw [if_pos hc, if_pos hc]; exact h3 hc
  · rw [if_neg hc, if_neg hc]; exact ⟨lv, gv, h2 hc⟩
set_option maxRecDepth 100000 in
set_option maxHeartbeats 16000000 in
theorem walk (s : Opn.Sl AQ) (key : ByteArray) (w : World) (hs : Opn.SlAt 35 layQ factQ w s) :
    Calls Try.prog 5 #[.slice s.a s.len s.cap, .string key] w fun e w' => e = .returned (.bool true) ∧ Below w.heap.size w w' := by
  obtain ⟨hA, hL, hlc, hcm⟩ := acs_of hs
  generalize s.els.map qk = A at hA hL
  generalize s.a = a at hA ⊢
  generalize s.len = n at hA hlc ⊢
  generalize s.cap = c at hlc hcm ⊢
  have HA : Hid (St.At 35 ae w a n A) := hA
  have HL : Hid (∀ x ∈ A, AcAt w x) := hL
  have HLn : Hid (A.length = n) := hA.len
  unfold maxLen at hcm
  have HMu : Hid (Calls Try.prog 20 #[.slice a n c] w (MchPost w n A)) := mmuch_any w a n c A hA hL
  have HM : Hid (M (fun _ => False) w w []) := M.start _ w
  clear hs hA hL
  go_enter Try.func5, Try.ntmps5
  go_wp2_with (first | (go_at_call 20; refine HMu.out.mono ?_; rintro e w1 ⟨⟨p, rfl, k1, hp⟩⟩; have HM : Hid _ := HM.out.calm k1; have HP : Hid _ := hp; clear k1 hp; cases p) | (go_at_call 21; refine (awakeM _).mono ?_; rintro e w9 ⟨rfl, k9⟩; have HM : Hid _ := HM.out.calm k9; clear k9) | (go_at_call 22; refine (mnew _).mono ?_; rintro e w2 ⟨b, bl, bo, rfl, m2⟩; have HM : Hid (M (fun _ => False) w w2 [muI b bl bo [] []]) := M.app1b HM.out m2; clear m2))
  rotate_left
  · go_ret
    exact ⟨rfl, Keep.below HM.out.keep (Nat.le_refl _) (fun _ h => h.elim)⟩
  obtain ⟨hn30, hf⟩ := HP.out (by trivial)
  have HF : Hid (∀ x ∈ A, few x) := hf
  clear hf HP HMu
  obtain ⟨bx, hbx⟩ : ∃ bx, w2.heap.size = bx := ⟨_, rfl⟩
  have HM : Hid (M (fun _ => False) w (w2.alloc (mxc (.slice none 0 0) (.slice none 0 0))) [muI b bl bo [] [], mxI bx (.slice none 0 0) (.slice none 0 0) [] []]) := M.mxnew HM.out hbx
  rw [hbx]
  clear hbx
  go_loopw [7] (fun s7 wr => ∃ (k : Nat) (L : List Wr) (O : List Wd) (lv gv : Value) (X : List Wr) (G : List Wd), k ≤ n ∧ s7 = .int .i64 k ∧ M (fun _ => False) w wr [muI b bl bo L O, mxI bx lv gv X G] ∧ Ob (A.take k) L O ∧ Xb (A.take k) X G) (fun s7 _ => n - (intOf s7).toNat)
  case atStart => exact ⟨0, [], [], _, _, [], [], Nat.zero_le _, by go_num, HM.out, Ob.nil, Xb.nil⟩
  case round =>
    clear HM
    obtain ⟨k, L, O, lv, gv, X, G, hk, rfl, hM, hOb, hXb⟩ := hrel
    have HM : Hid (M (fun _ => False) w wr [muI b bl bo L O, mxI bx lv gv X G]) := hM
    have HOb : Hid (Ob (A.take k) L O) := hOb
    have HXb : Hid (Xb (A.take k) X G) := hXb
    have HTl : Hid ((A.take k).length ≤ 30) := Nat.le_trans (List.length_take_le _ _) (by omega)
    clear hM hOb hXb
    by_cases hlt : k < n
    · obtain ⟨x, hx⟩ : ∃ x, A[k]? = some x := ⟨_, List.getElem?_eq_getElem (by rw [HLn.out]; exact hlt)⟩
      obtain ⟨b1, o1, rfl, hb1, hr1⟩ : ∃ b off, a = some ⟨b, off, none⟩ ∧ b < w.heap.size ∧ ∀ i x, A[i]? = some x → w.rangeAt b (off + i * 35) (ae x) := by rcases HA.out.lay with e | e; omega; exact e
      have HRg : Hid (∀ w', Keep (fun _ => False) w w' → w'.rangeAt b1 (o1 + k * 35) (ae x)) := fun w' h => h.range hb1 (fun h => h) (hr1 k x hx)
      have HAx : Hid (AcAt w x) := HL.out x (List.mem_of_getElem? hx)
      have H12 : Hid (x.ov.length ≤ 12) := by show _ ≤ _; rw [HAx.out.1.len]; exact (HF.out x (List.mem_of_getElem? hx)).1
      have H32 : Hid (∀ u ∈ x.ov, u.length = 32) := HAx.out.1.size
      have HTk : Hid (A.take (k + 1) = A.take k ++ [x]) := by show _ = _; rw [List.take_add_one, hx]; rfl
      have d32 := rng_wk (rng_ax (HRg.out _ HM.out.keep))
      obtain ⟨ky, hky⟩ : ∃ q, x.x.k = q := ⟨_, rfl⟩
      rw [hky] at d32
      have HSe : Hid (∀ w1, M (fun _ => False) w w1 [muI b bl bo L O, mxI bx lv gv X G] → Calls Try.prog 23 #[.pointer (some ⟨b, 0, none⟩), .agg (ae x).toArray] w1 (StPost w1 b bl bo L O x)) := fun w1 h1 =>
        mact_any w1 b bl bo L O (h1.get 0 rfl) HOb.out.nd (by have := HOb.out.len; have := HTl.out; omega) x (HAx.out.calm h1.keep) (fun g o e h0 hf => by have h2 := HAx.out.lt e h0; have h3 := (h1.rng 0 _ rfl g hf).1.resolve_right (fun h => h); omega)
      have HXe : Hid (∀ w1 L2 O2, M (fun _ => False) w w1 [muI b bl bo L2 O2, mxI bx lv gv X G] → Calls Try.prog 30 #[.pointer (some ⟨bx, 0, none⟩), .agg (we x.x).toArray, .slice x.oa x.on x.oc] w1 fun e w' => e = .returned (.int .i64 (cdW x.x)) ∧ ∃ lv' gv', MXTo w1 w' bx lv gv lv' gv' (sX X x) (sG G x)) := fun w1 L2 O2 h1 =>
        (xmset_any w1 bx lv gv X G (h1.get 1 rfl) (by have := HXb.out.xl; have := HTl.out; omega) (by have := HXb.out.gl; have := HTl.out; omega) x.x HAx.out.2.1 HAx.out.2.2 x.oa x.on x.oc x.ov (HAx.out.1.calm h1.keep) (by have h := H12.out; rw [HAx.out.1.len] at h; omega) (fun g o e h0 hf => by have h2 := HAx.out.lt e h0; have h3 := (h1.rng 1 _ rfl g hf).1.resolve_right (fun h => h); omega)).mono fun e w' h => xset_to h
      clear hr1 hb1 hx hky
      go_wp2
      clear d32
      refine Txt.wp_region_text (fun w' => w'.rangeAt b1 (o1 + k * 35) (ae x)) [0, 0, 0, 0, 1, 4, 0, 0, 0, 0, 0, 2, 0, 0, 0, 0, 2, 4, 0, 0, 0, 4, 0, 4, 4, 0, 0, 0, 0, 0, 4, 0, 0, 4, 4, 0, 0] (by kernel_rfl) (by kernel_rfl) (HRg.out _ HM.out.drew.keep) ?_
      have HM : Hid _ := HM.out.drew
      have R1 : Hid _ := HRg.out _ HM.out.keep
      (repeat (first | (refine Txt.tl_pure (v := ?_) (by rfl) ?_ ?_; rotate_left; (focus (intro _; go_simp; try with_reducible rfl)); simp only [Act.put, List.setIfInBounds_toArray, List.set_cons_zero, List.set_cons_succ]) | (refine Txt.tl_rowN (n := 35) (ty := 53) (by rfl) (by rfl) (by rfl) R1.out (by kernel_rfl) (ae_len x) ?_; simp only [Act.put, List.setIfInBounds_toArray, List.set_cons_zero, List.set_cons_succ]) | (refine Txt.tl_rowSN (n := 34) (ty := 51) (by rfl) (by rfl) (by rfl) (fun _ h => rng_ax h) (by kernel_rfl) (we_len _) ?_; simp only [Act.put, List.setIfInBounds_toArray, List.set_cons_zero, List.set_cons_succ]) | (refine Txt.tl_loadS (v := .slice x.oa x.on x.oc) (ty := 29) (by rfl) (by rfl) (by rfl) (by kernel_rfl) (fun _ h => rng_ao h) ?_; simp only [Act.put, List.setIfInBounds_toArray, List.set_cons_zero, List.set_cons_succ])))
      refine Txt.tl_call Try.func23 (by kernel_rfl) (by kernel_rfl) (by rfl) (by rfl) (by rfl) (HSe.out _ HM.out) ?_
      rintro e w4 ⟨rfl, L4, n4, m4, t4⟩
      have HO4 : Hid (Ob (A.take (k + 1)) L4 (goO O x)) := by rw [HTk.out]; exact HOb.out.step x H12.out H32.out n4 m4
      have HM : Hid (M (fun _ => False) w w4 [muI b bl bo L4 (goO O x), mxI bx lv gv X G]) := M.mto HM.out 0 rfl t4
      clear t4 n4 m4 R1
      refine ⟨_, rfl, HRg.out _ HM.out.keep, ?_⟩
      simp only [Act.put, List.setIfInBounds_toArray, List.set_cons_zero, List.set_cons_succ]
      have R1 : Hid _ := HRg.out _ HM.out.keep
      (repeat (first | (refine Txt.tl_pure (v := ?_) (by rfl) ?_ ?_; rotate_left; (focus (intro _; go_simp; try with_reducible rfl)); simp only [Act.put, List.setIfInBounds_toArray, List.set_cons_zero, List.set_cons_succ]) | (refine Txt.tl_rowN (n := 35) (ty := 53) (by rfl) (by rfl) (by rfl) R1.out (by kernel_rfl) (ae_len x) ?_; simp only [Act.put, List.setIfInBounds_toArray, List.set_cons_zero, List.set_cons_succ]) | (refine Txt.tl_rowSN (n := 34) (ty := 51) (by rfl) (by rfl) (by rfl) (fun _ h => rng_ax h) (by kernel_rfl) (we_len _) ?_; simp only [Act.put, List.setIfInBounds_toArray, List.set_cons_zero, List.set_cons_succ]) | (refine Txt.tl_loadS (v := .slice x.oa x.on x.oc) (ty := 29) (by rfl) (by rfl) (by rfl) (by kernel_rfl) (fun _ h => rng_ao h) ?_; simp only [Act.put, List.setIfInBounds_toArray, List.set_cons_zero, List.set_cons_succ])))
      refine Txt.tl_call Try.func30 (by kernel_rfl) (by kernel_rfl) (by rfl) (by rfl) (by rfl) (HXe.out _ _ _ HM.out) ?_
      rintro e w5 ⟨rfl, lv5, gv5, t5⟩
      have HX5 : Hid (Xb (A.take (k + 1)) (sX X x) (sG G x)) := by rw [HTk.out]; exact HXb.out.step x H12.out
      have HM : Hid (M (fun _ => False) w w5 [muI b bl bo L4 (goO O x), mxI bx lv5 gv5 (sX X x) (sG G x)]) := M.mx HM.out 1 rfl t5
      clear t5 R1 HSe HXe
      refine ⟨_, rfl, HRg.out _ HM.out.keep, ?_⟩
      simp only [Act.put, List.setIfInBounds_toArray, List.set_cons_zero, List.set_cons_succ]
      have R1 : Hid _ := HRg.out _ HM.out.keep
      obtain ⟨l, hl⟩ : ∃ l, srtP ((L4).map kv) = l := ⟨_, rfl⟩
      obtain ⟨ik, hik⟩ : ∃ q, IdL.setL (idsK (L4) ky) = q := ⟨_, rfl⟩
      obtain ⟨gk, hgk⟩ : ∃ q, getL l ky = q := ⟨_, rfl⟩
      obtain ⟨T, hT⟩ : ∃ T : ByteArray, putT (L4) (goO O x) = T := ⟨_, rfl⟩
      have hlen : (L4).length ≤ 30 ∧ (sX X x).length ≤ 30 ∧ (sG G x).length ≤ 360 := (by have h1 := HO4.out.len; have h2 := HX5.out.xl; have h3 := HX5.out.gl; have h4 := (List.length_take_le' k A); have h5 := (List.length_take_le' (k + 1) A); have h6 := HLn.out; omega)
      have hC60 : ∀ {C : List Ac}, Ob C (L4) (goO O x) → C.length ≤ 60 → C.length ≤ 60 := fun _ h => h
      have hsl : ∀ y, y ∈ (L4) ↔ y ∈ (sX X x) ∧ y.u ∉ (sG G x) := HX5.out.lx HO4.out
      have hog : ∀ u, u ∈ (sG G x) ↔ u ∈ (goO O x) := HX5.out.og HO4.out
      have HLa : Hid (∀ w1, MuAt w1 b bl bo (L4) (goO O x) → Calls Try.prog 32 #[.pointer (some ⟨b, 0, none⟩)] w1 fun e w' => ∃ v, e = .returned v ∧ M (mfoot b bl bo) w1 w' [muI b bl bo (L4) (goO O x), rP v l]) := fun w1 h1 => (by
        have h2 := list_t HO4.out (by have h5 := (List.length_take_le' (k + 1) A); have h4 := (List.length_take_le' k A); have h6 := HLn.out; omega) h1
        rwa [hl] at h2)
      have HLb : Hid (∀ w1, MxAt w1 bx (lv5) (gv5) (sX X x) (sG G x) → Calls Try.prog 33 #[.pointer (some ⟨bx, 0, none⟩)] w1 fun e w' => ∃ v, e = .returned v ∧ M (fun _ => False) w1 w' [rP v l]) := fun w1 h1 =>
        (xlist_any w1 bx (lv5) (gv5) (sX X x) (sG G x) h1 (by omega) (by omega)).mono fun e w' ⟨v, l2, he, hM, h2, h3, _⟩ => (by
          rw [srtP_is (L := (L4).map kv) h2 (fun p => by rw [h3, mem_kv]; exact ⟨fun ⟨x, g1, g2⟩ => ⟨x, (hsl x).2 g1, g2⟩, fun ⟨x, g1, g2⟩ => ⟨x, (hsl x).1 g1, g2⟩⟩), hl] at hM
          exact ⟨v, he, hM⟩)
      have HIa : Hid (∀ w1, MuAt w1 b bl bo (L4) (goO O x) → Calls Try.prog 25 #[.pointer (some ⟨b, 0, none⟩), .string ky] w1 fun e w' => ∃ v, e = .returned v ∧ M (mfoot b bl bo) w1 w' [muI b bl bo (L4) (goO O x), ids v ik]) := fun w1 h1 => (mids_any w1 b bl bo (L4) (goO O x) h1 HO4.out.nd (by omega) ky).mono fun e w' ⟨v, he, hM⟩ => (by rw [hik] at hM; exact ⟨v, he, hM⟩)
      have HIb : Hid (∀ w1, MxAt w1 bx (lv5) (gv5) (sX X x) (sG G x) → Calls Try.prog 34 #[.pointer (some ⟨bx, 0, none⟩), .string ky] w1 fun e w' => ∃ v, e = .returned v ∧ M (fun _ => False) w1 w' [ids v ik]) := fun w1 h1 => (xmids_any w1 bx (lv5) (gv5) (sX X x) (sG G x) h1 (by omega) (by omega) ky).mono fun e w' ⟨D, v, hD, he, hM⟩ => (by
        rw [show IdL.setL (idsK D ky) = ik from by rw [← hik]; exact IdL.setL_congr fun u => by rw [mem_idsK, mem_idsK]; exact ⟨fun ⟨x, g1, g2⟩ => ⟨x, (hsl x).2 ((hD x).1 g1), g2⟩, fun ⟨x, g1, g2⟩ => ⟨x, (hD x).2 ((hsl x).1 g1), g2⟩⟩] at hM
        exact ⟨v, he, hM⟩)
      have HGa : Hid (∀ w1, MuAt w1 b bl bo (L4) (goO O x) → Calls Try.prog 28 #[.pointer (some ⟨b, 0, none⟩), .string ky] w1 fun e w' => ∃ v, e = .returned v ∧ M (mfoot b bl bo) w1 w' [muI b bl bo (L4) (goO O x), rS v gk]) := fun w1 h1 => (mget_any w1 b bl bo (L4) (goO O x) h1 HO4.out.nd (by omega) ky).mono fun e w' ⟨v, l2, he, hM, h2, h3, _⟩ => (by
        rw [srtP_is (L := (L4).map kv) h2 (fun p => by rw [h3, mem_kv]), hl, hgk] at hM
        exact ⟨v, he, hM⟩)
      have HGb : Hid (∀ w1, MxAt w1 bx (lv5) (gv5) (sX X x) (sG G x) → Calls Try.prog 37 #[.pointer (some ⟨bx, 0, none⟩), .string ky] w1 fun e w' => ∃ v, e = .returned v ∧ M (fun _ => False) w1 w' [rS v gk]) := fun w1 h1 => (xget_any w1 bx (lv5) (gv5) (sX X x) (sG G x) h1 (by omega) (by omega) ky).mono fun e w' ⟨v, l2, he, hM, h2, h3, _⟩ => (by
        rw [srtP_is (L := (L4).map kv) h2 (fun p => by rw [h3, mem_kv]; exact ⟨fun ⟨x, g1, g2⟩ => ⟨x, (hsl x).2 g1, g2⟩, fun ⟨x, g1, g2⟩ => ⟨x, (hsl x).1 g1, g2⟩⟩), hl, hgk] at hM
        exact ⟨v, he, hM⟩)
      have HPa : Hid (∀ w1, MuAt w1 b bl bo (L4) (goO O x) → Calls Try.prog 35 #[.pointer (some ⟨b, 0, none⟩)] w1 fun e w' => e = .returned (.string T) ∧ MTo w1 w' b bl bo (L4) (goO O x)) := fun w1 h1 => (by
        have h2 := put_t HO4.out (by have h5 := (List.length_take_le' (k + 1) A); have h4 := (List.length_take_le' k A); have h6 := HLn.out; omega) h1
        rwa [hT] at h2)
      have HPb : Hid (∀ w1, MxAt w1 bx (lv5) (gv5) (sX X x) (sG G x) → Calls Try.prog 36 #[.pointer (some ⟨bx, 0, none⟩)] w1 fun e w' => e = .returned (.string T) ∧ Keep (fun _ => False) w1 w') := fun w1 h1 => (xput_any w1 bx (lv5) (gv5) (sX X x) (sG G x) h1 (by omega) (by omega) HX5.out.small).mono fun e w' ⟨D, h2, h3, he, hk⟩ => (by
        rw [srtW_is (L := L4) h2 (fun x => by rw [h3, hsl]), IdL.setL_congr hog] at he
        exact ⟨by rw [he, ← hT]; rfl, hk⟩)
      clear hl hik hgk hT hlen hC60 hsl hog
      (repeat (first | (refine Txt.tl_pure (v := ?_) (by rfl) ?_ ?_; rotate_left; (focus (intro _; go_simp; try with_reducible rfl)); simp only [Act.put, List.setIfInBounds_toArray, List.set_cons_zero, List.set_cons_succ]) | (refine Txt.tl_rowN (n := 35) (ty := 53) (by rfl) (by rfl) (by rfl) R1.out (by kernel_rfl) (ae_len x) ?_; simp only [Act.put, List.setIfInBounds_toArray, List.set_cons_zero, List.set_cons_succ]) | (refine Txt.tl_rowSN (n := 34) (ty := 51) (by rfl) (by rfl) (by rfl) (fun _ h => rng_ax h) (by kernel_rfl) (we_len _) ?_; simp only [Act.put, List.setIfInBounds_toArray, List.set_cons_zero, List.set_cons_succ]) | (refine Txt.tl_loadS (v := .slice x.oa x.on x.oc) (ty := 29) (by rfl) (by rfl) (by rfl) (by kernel_rfl) (fun _ h => rng_ao h) ?_; simp only [Act.put, List.setIfInBounds_toArray, List.set_cons_zero, List.set_cons_succ])))
      refine Txt.tl_call Try.func32 (by kernel_rfl) (by kernel_rfl) (by rfl) (by rfl) (by rfl) (HLa.out _ (HM.out.get 0 rfl)) ?_
      rintro e w6 ⟨v6, rfl, m6⟩
      have HM : Hid _ := two HM.out 0 rfl m6
      obtain ⟨a6, c6, e6, _⟩ := (show OwnP w6 v6 l from HM.out.get 2 rfl).any
      subst e6
      clear m6
      refine ⟨_, rfl, HRg.out _ HM.out.keep, ?_⟩
      simp only [Act.put, List.setIfInBounds_toArray, List.set_cons_zero, List.set_cons_succ]
      (repeat (first | (refine Txt.tl_pure (v := ?_) (by rfl) ?_ ?_; rotate_left; (focus (intro _; go_simp; try with_reducible rfl)); simp only [Act.put, List.setIfInBounds_toArray, List.set_cons_zero, List.set_cons_succ]) | (refine Txt.tl_rowN (n := 35) (ty := 53) (by rfl) (by rfl) (by rfl) R1.out (by kernel_rfl) (ae_len x) ?_; simp only [Act.put, List.setIfInBounds_toArray, List.set_cons_zero, List.set_cons_succ]) | (refine Txt.tl_rowSN (n := 34) (ty := 51) (by rfl) (by rfl) (by rfl) (fun _ h => rng_ax h) (by kernel_rfl) (we_len _) ?_; simp only [Act.put, List.setIfInBounds_toArray, List.set_cons_zero, List.set_cons_succ]) | (refine Txt.tl_loadS (v := .slice x.oa x.on x.oc) (ty := 29) (by rfl) (by rfl) (by rfl) (by kernel_rfl) (fun _ h => rng_ao h) ?_; simp only [Act.put, List.setIfInBounds_toArray, List.set_cons_zero, List.set_cons_succ])))
      refine Txt.tl_call Try.func33 (by kernel_rfl) (by kernel_rfl) (by rfl) (by rfl) (by rfl) (HLb.out _ (HM.out.get 1 rfl)) ?_
      rintro e w7 ⟨v7, rfl, m7⟩
      have HM : Hid _ := M.app1b HM.out m7
      obtain ⟨a7, c7, e7, _⟩ := (show OwnP w7 v7 l from HM.out.get 3 rfl).any
      subst e7
      clear m7
      refine ⟨_, rfl, HRg.out _ HM.out.keep, ?_⟩
      simp only [Act.put, List.setIfInBounds_toArray, List.set_cons_zero, List.set_cons_succ]
      (repeat (first | (refine Txt.tl_pure (v := ?_) (by rfl) ?_ ?_; rotate_left; (focus (intro _; go_simp; try with_reducible rfl)); simp only [Act.put, List.setIfInBounds_toArray, List.set_cons_zero, List.set_cons_succ]) | (refine Txt.tl_rowN (n := 35) (ty := 53) (by rfl) (by rfl) (by rfl) R1.out (by kernel_rfl) (ae_len x) ?_; simp only [Act.put, List.setIfInBounds_toArray, List.set_cons_zero, List.set_cons_succ]) | (refine Txt.tl_rowSN (n := 34) (ty := 51) (by rfl) (by rfl) (by rfl) (fun _ h => rng_ax h) (by kernel_rfl) (we_len _) ?_; simp only [Act.put, List.setIfInBounds_toArray, List.set_cons_zero, List.set_cons_succ]) | (refine Txt.tl_loadS (v := .slice x.oa x.on x.oc) (ty := 29) (by rfl) (by rfl) (by rfl) (by kernel_rfl) (fun _ h => rng_ao h) ?_; simp only [Act.put, List.setIfInBounds_toArray, List.set_cons_zero, List.set_cons_succ])))
      refine Txt.tl_call Try.func31 (by kernel_rfl) (by kernel_rfl) (by rfl) (by rfl) (by rfl) (ppairs_same _ a6 a7 l.length c6 c7 l (own_sl (HM.out.get 2 rfl)).2 (own_sl (HM.out.get 3 rfl)).2) ?_
      rintro e w8 ⟨rfl, k8⟩
      have HM : Hid _ := HM.out.calm k8
      clear k8
      refine ⟨_, rfl, HRg.out _ HM.out.keep, ?_⟩
      simp only [Act.put, List.setIfInBounds_toArray, List.set_cons_zero, List.set_cons_succ]
      (repeat (first | (refine Txt.tl_pure (v := ?_) (by rfl) ?_ ?_; rotate_left; (focus (intro _; go_simp; try with_reducible rfl)); simp only [Act.put, List.setIfInBounds_toArray, List.set_cons_zero, List.set_cons_succ]) | (refine Txt.tl_rowN (n := 35) (ty := 53) (by rfl) (by rfl) (by rfl) R1.out (by kernel_rfl) (ae_len x) ?_; simp only [Act.put, List.setIfInBounds_toArray, List.set_cons_zero, List.set_cons_succ]) | (refine Txt.tl_rowSN (n := 34) (ty := 51) (by rfl) (by rfl) (by rfl) (fun _ h => rng_ax h) (by kernel_rfl) (we_len _) ?_; simp only [Act.put, List.setIfInBounds_toArray, List.set_cons_zero, List.set_cons_succ]) | (refine Txt.tl_loadS (v := .slice x.oa x.on x.oc) (ty := 29) (by rfl) (by rfl) (by rfl) (by kernel_rfl) (fun _ h => rng_ao h) ?_; simp only [Act.put, List.setIfInBounds_toArray, List.set_cons_zero, List.set_cons_succ])))
      refine Txt.tl_call Try.func25 (by kernel_rfl) (by kernel_rfl) (by rfl) (by rfl) (by rfl) (HIa.out _ (HM.out.get 0 rfl)) ?_
      rintro e w9 ⟨v9, rfl, m9⟩
      have HM : Hid _ := two HM.out 0 rfl m9
      obtain ⟨a9, c9, e9, _⟩ := (show Ids.Own w9 v9 ik from HM.out.get 4 rfl).at
      subst e9
      clear m9
      refine ⟨_, rfl, HRg.out _ HM.out.keep, ?_⟩
      simp only [Act.put, List.setIfInBounds_toArray, List.set_cons_zero, List.set_cons_succ]
      (repeat (first | (refine Txt.tl_pure (v := ?_) (by rfl) ?_ ?_; rotate_left; (focus (intro _; go_simp; try with_reducible rfl)); simp only [Act.put, List.setIfInBounds_toArray, List.set_cons_zero, List.set_cons_succ]) | (refine Txt.tl_rowN (n := 35) (ty := 53) (by rfl) (by rfl) (by rfl) R1.out (by kernel_rfl) (ae_len x) ?_; simp only [Act.put, List.setIfInBounds_toArray, List.set_cons_zero, List.set_cons_succ]) | (refine Txt.tl_rowSN (n := 34) (ty := 51) (by rfl) (by rfl) (by rfl) (fun _ h => rng_ax h) (by kernel_rfl) (we_len _) ?_; simp only [Act.put, List.setIfInBounds_toArray, List.set_cons_zero, List.set_cons_succ]) | (refine Txt.tl_loadS (v := .slice x.oa x.on x.oc) (ty := 29) (by rfl) (by rfl) (by rfl) (by kernel_rfl) (fun _ h => rng_ao h) ?_; simp only [Act.put, List.setIfInBounds_toArray, List.set_cons_zero, List.set_cons_succ])))
      refine Txt.tl_call Try.func34 (by kernel_rfl) (by kernel_rfl) (by rfl) (by rfl) (by rfl) (HIb.out _ (HM.out.get 1 rfl)) ?_
      rintro e w10 ⟨v10, rfl, m10⟩
      have HM : Hid _ := M.app1b HM.out m10
      obtain ⟨a10, c10, e10, _⟩ := (show Ids.Own w10 v10 ik from HM.out.get 5 rfl).at
      subst e10
      clear m10
      refine ⟨_, rfl, HRg.out _ HM.out.keep, ?_⟩
      simp only [Act.put, List.setIfInBounds_toArray, List.set_cons_zero, List.set_cons_succ]
      (repeat (first | (refine Txt.tl_pure (v := ?_) (by rfl) ?_ ?_; rotate_left; (focus (intro _; go_simp; try with_reducible rfl)); simp only [Act.put, List.setIfInBounds_toArray, List.set_cons_zero, List.set_cons_succ]) | (refine Txt.tl_rowN (n := 35) (ty := 53) (by rfl) (by rfl) (by rfl) R1.out (by kernel_rfl) (ae_len x) ?_; simp only [Act.put, List.setIfInBounds_toArray, List.set_cons_zero, List.set_cons_succ]) | (refine Txt.tl_rowSN (n := 34) (ty := 51) (by rfl) (by rfl) (by rfl) (fun _ h => rng_ax h) (by kernel_rfl) (we_len _) ?_; simp only [Act.put, List.setIfInBounds_toArray, List.set_cons_zero, List.set_cons_succ]) | (refine Txt.tl_loadS (v := .slice x.oa x.on x.oc) (ty := 29) (by rfl) (by rfl) (by rfl) (by kernel_rfl) (fun _ h => rng_ao h) ?_; simp only [Act.put, List.setIfInBounds_toArray, List.set_cons_zero, List.set_cons_succ])))
      refine Txt.tl_call Try.func29 (by kernel_rfl) (by kernel_rfl) (by rfl) (by rfl) (by rfl) (same_any _ a9 a10 ik.length ik.length c9 c10 ik ik (own_idat (HM.out.get 4 rfl)) (own_idat (HM.out.get 5 rfl))) ?_
      rw [decide_eq_true rfl]
      rintro e w11 ⟨rfl, k11⟩
      have HM : Hid _ := HM.out.calm k11
      clear k11
      refine ⟨_, rfl, HRg.out _ HM.out.keep, ?_⟩
      simp only [Act.put, List.setIfInBounds_toArray, List.set_cons_zero, List.set_cons_succ]
      (repeat (first | (refine Txt.tl_pure (v := ?_) (by rfl) ?_ ?_; rotate_left; (focus (intro _; go_simp; try with_reducible rfl)); simp only [Act.put, List.setIfInBounds_toArray, List.set_cons_zero, List.set_cons_succ]) | (refine Txt.tl_rowN (n := 35) (ty := 53) (by rfl) (by rfl) (by rfl) R1.out (by kernel_rfl) (ae_len x) ?_; simp only [Act.put, List.setIfInBounds_toArray, List.set_cons_zero, List.set_cons_succ]) | (refine Txt.tl_rowSN (n := 34) (ty := 51) (by rfl) (by rfl) (by rfl) (fun _ h => rng_ax h) (by kernel_rfl) (we_len _) ?_; simp only [Act.put, List.setIfInBounds_toArray, List.set_cons_zero, List.set_cons_succ]) | (refine Txt.tl_loadS (v := .slice x.oa x.on x.oc) (ty := 29) (by rfl) (by rfl) (by rfl) (by kernel_rfl) (fun _ h => rng_ao h) ?_; simp only [Act.put, List.setIfInBounds_toArray, List.set_cons_zero, List.set_cons_succ])))
      refine Txt.tl_nil ?_
      go_wp2
      go_roundw
      case rel => exact ⟨k + 1, L4, _, lv5, gv5, _, _, by omega, by go_num, HM.out.take 2, HO4.out, HX5.out⟩
      case measure => simp [intOf]; omega
    · obtain rfl : n = k := by omega
      have HTk : Hid (A.take n = A) := List.take_of_length_le (by rw [HLn.out]; exact Nat.le_refl _)
      generalize key = ky
      obtain ⟨l, hl⟩ : ∃ l, srtP ((L).map kv) = l := ⟨_, rfl⟩
      obtain ⟨ik, hik⟩ : ∃ q, IdL.setL (idsK (L) ky) = q := ⟨_, rfl⟩
      obtain ⟨gk, hgk⟩ : ∃ q, getL l ky = q := ⟨_, rfl⟩
      obtain ⟨T, hT⟩ : ∃ T : ByteArray, putT (L) (O) = T := ⟨_, rfl⟩
      have hlen : (L).length ≤ 30 ∧ (X).length ≤ 30 ∧ (G).length ≤ 360 := (by have h1 := HOb.out.len; have h2 := HXb.out.xl; have h3 := HXb.out.gl; have h4 := (List.length_take_le' n A); have h5 := (List.length_take_le' (n + 1) A); have h6 := HLn.out; omega)
      have hC60 : ∀ {C : List Ac}, Ob C (L) (O) → C.length ≤ 60 → C.length ≤ 60 := fun _ h => h
      have hsl : ∀ y, y ∈ (L) ↔ y ∈ (X) ∧ y.u ∉ (G) := HXb.out.lx HOb.out
      have hog : ∀ u, u ∈ (G) ↔ u ∈ (O) := HXb.out.og HOb.out
      have HLa : Hid (∀ w1, MuAt w1 b bl bo (L) (O) → Calls Try.prog 32 #[.pointer (some ⟨b, 0, none⟩)] w1 fun e w' => ∃ v, e = .returned v ∧ M (mfoot b bl bo) w1 w' [muI b bl bo (L) (O), rP v l]) := fun w1 h1 => (by
        have h2 := list_t HOb.out (by have h5 := (List.length_take_le' (n + 1) A); have h4 := (List.length_take_le' n A); have h6 := HLn.out; omega) h1
        rwa [hl] at h2)
      have HLb : Hid (∀ w1, MxAt w1 bx (lv) (gv) (X) (G) → Calls Try.prog 33 #[.pointer (some ⟨bx, 0, none⟩)] w1 fun e w' => ∃ v, e = .returned v ∧ M (fun _ => False) w1 w' [rP v l]) := fun w1 h1 =>
        (xlist_any w1 bx (lv) (gv) (X) (G) h1 (by omega) (by omega)).mono fun e w' ⟨v, l2, he, hM, h2, h3, _⟩ => (by
          rw [srtP_is (L := (L).map kv) h2 (fun p => by rw [h3, mem_kv]; exact ⟨fun ⟨x, g1, g2⟩ => ⟨x, (hsl x).2 g1, g2⟩, fun ⟨x, g1, g2⟩ => ⟨x, (hsl x).1 g1, g2⟩⟩), hl] at hM
          exact ⟨v, he, hM⟩)
      have HIa : Hid (∀ w1, MuAt w1 b bl bo (L) (O) → Calls Try.prog 25 #[.pointer (some ⟨b, 0, none⟩), .string ky] w1 fun e w' => ∃ v, e = .returned v ∧ M (mfoot b bl bo) w1 w' [muI b bl bo (L) (O), ids v ik]) := fun w1 h1 => (mids_any w1 b bl bo (L) (O) h1 HOb.out.nd (by omega) ky).mono fun e w' ⟨v, he, hM⟩ => (by rw [hik] at hM; exact ⟨v, he, hM⟩)
      have HIb : Hid (∀ w1, MxAt w1 bx (lv) (gv) (X) (G) → Calls Try.prog 34 #[.pointer (some ⟨bx, 0, none⟩), .string ky] w1 fun e w' => ∃ v, e = .returned v ∧ M (fun _ => False) w1 w' [ids v ik]) := fun w1 h1 => (xmids_any w1 bx (lv) (gv) (X) (G) h1 (by omega) (by omega) ky).mono fun e w' ⟨D, v, hD, he, hM⟩ => (by
        rw [show IdL.setL (idsK D ky) = ik from by rw [← hik]; exact IdL.setL_congr fun u => by rw [mem_idsK, mem_idsK]; exact ⟨fun ⟨x, g1, g2⟩ => ⟨x, (hsl x).2 ((hD x).1 g1), g2⟩, fun ⟨x, g1, g2⟩ => ⟨x, (hD x).2 ((hsl x).1 g1), g2⟩⟩] at hM
        exact ⟨v, he, hM⟩)
      have HGa : Hid (∀ w1, MuAt w1 b bl bo (L) (O) → Calls Try.prog 28 #[.pointer (some ⟨b, 0, none⟩), .string ky] w1 fun e w' => ∃ v, e = .returned v ∧ M (mfoot b bl bo) w1 w' [muI b bl bo (L) (O), rS v gk]) := fun w1 h1 => (mget_any w1 b bl bo (L) (O) h1 HOb.out.nd (by omega) ky).mono fun e w' ⟨v, l2, he, hM, h2, h3, _⟩ => (by
        rw [srtP_is (L := (L).map kv) h2 (fun p => by rw [h3, mem_kv]), hl, hgk] at hM
        exact ⟨v, he, hM⟩)
      have HGb : Hid (∀ w1, MxAt w1 bx (lv) (gv) (X) (G) → Calls Try.prog 37 #[.pointer (some ⟨bx, 0, none⟩), .string ky] w1 fun e w' => ∃ v, e = .returned v ∧ M (fun _ => False) w1 w' [rS v gk]) := fun w1 h1 => (xget_any w1 bx (lv) (gv) (X) (G) h1 (by omega) (by omega) ky).mono fun e w' ⟨v, l2, he, hM, h2, h3, _⟩ => (by
        rw [srtP_is (L := (L).map kv) h2 (fun p => by rw [h3, mem_kv]; exact ⟨fun ⟨x, g1, g2⟩ => ⟨x, (hsl x).2 g1, g2⟩, fun ⟨x, g1, g2⟩ => ⟨x, (hsl x).1 g1, g2⟩⟩), hl, hgk] at hM
        exact ⟨v, he, hM⟩)
      have HPa : Hid (∀ w1, MuAt w1 b bl bo (L) (O) → Calls Try.prog 35 #[.pointer (some ⟨b, 0, none⟩)] w1 fun e w' => e = .returned (.string T) ∧ MTo w1 w' b bl bo (L) (O)) := fun w1 h1 => (by
        have h2 := put_t HOb.out (by have h5 := (List.length_take_le' (n + 1) A); have h4 := (List.length_take_le' n A); have h6 := HLn.out; omega) h1
        rwa [hT] at h2)
      have HPb : Hid (∀ w1, MxAt w1 bx (lv) (gv) (X) (G) → Calls Try.prog 36 #[.pointer (some ⟨bx, 0, none⟩)] w1 fun e w' => e = .returned (.string T) ∧ Keep (fun _ => False) w1 w') := fun w1 h1 => (xput_any w1 bx (lv) (gv) (X) (G) h1 (by omega) (by omega) HXb.out.small).mono fun e w' ⟨D, h2, h3, he, hk⟩ => (by
        rw [srtW_is (L := L) h2 (fun x => by rw [h3, hsl]), IdL.setL_congr hog] at he
        exact ⟨by rw [he, ← hT]; rfl, hk⟩)
      clear hl hik hgk hT hlen hC60 hsl hog
      have htt : (T.toList == T.toList) = true := by simp
      go_wp2_with (first | (go_at_call 35; refine (HPa.out _ (HM.out.get 0 rfl)).mono ?_; rintro e w4 ⟨rfl, t4⟩; have HM : Hid _ := M.mto HM.out 0 rfl t4; clear t4) | (go_at_call 36; refine (HPb.out _ (HM.out.get 1 rfl)).mono ?_; rintro e w5 ⟨rfl, k5⟩; have HM : Hid _ := HM.out.calm k5; clear k5) | (go_at_call 28; refine (HGa.out _ (HM.out.get 0 rfl)).mono ?_; rintro e w6 ⟨v6, rfl, m6⟩; have HM : Hid _ := two HM.out 0 rfl m6; clear m6; obtain ⟨a6, c6, e6, _⟩ := (show St.Own 9 1 es1 w6 v6 gk from HM.out.get 2 rfl).any; subst e6) | (go_at_call 37; refine (HGb.out _ (HM.out.get 1 rfl)).mono ?_; rintro e w7 ⟨v7, rfl, m7⟩; have HM : Hid _ := M.app1b HM.out m7; clear m7; obtain ⟨a7, c7, e7, _⟩ := (show St.Own 9 1 es1 w7 v7 gk from HM.out.get 3 rfl).any; subst e7) | (go_at_call 27; refine (texts_same _ a6 a7 gk.length c6 c7 gk (own_sl (HM.out.get 2 rfl)).2 (own_sl (HM.out.get 3 rfl)).2).mono ?_; rintro e w8 ⟨rfl, k8⟩; have HM : Hid _ := HM.out.calm k8; clear k8) | (go_at_call 25; refine (HIa.out _ (HM.out.get 0 rfl)).mono ?_; rintro e w9 ⟨v9, rfl, m9⟩; have HM : Hid _ := two HM.out 0 rfl m9; clear m9; obtain ⟨a9, c9, e9, _⟩ := (show Ids.Own w9 v9 ik from HM.out.get 4 rfl).at; subst e9) | (go_at_call 34; refine (HIb.out _ (HM.out.get 1 rfl)).mono ?_; rintro e w10 ⟨v10, rfl, m10⟩; have HM : Hid _ := M.app1b HM.out m10; clear m10; obtain ⟨a10, c10, e10, _⟩ := (show Ids.Own w10 v10 ik from HM.out.get 5 rfl).at; subst e10) | (go_at_call 29; refine (same_any _ a9 a10 ik.length ik.length c9 c10 ik ik (own_idat (HM.out.get 4 rfl)) (own_idat (HM.out.get 5 rfl))).mono ?_; rw [decide_eq_true rfl]; rintro e w11 ⟨rfl, k11⟩; have HM : Hid _ := HM.out.calm k11; clear k11) | (go_at_call 21; refine (awakeM _).mono ?_; rintro e w12 ⟨rfl, k12⟩; have HM : Hid _ := HM.out.calm k12; clear k12))
      go_ret
      exact ⟨rfl, Keep.below HM.out.keep (Nat.le_refl _) (fun _ h => h.elim)⟩
set_option maxRecDepth 100000 in
theorem own : ownKnob Try.prog.godebug = none := by kernel_rfl
set_option maxRecDepth 100000 in
theorem laidOut : laidOutB Try.prog = true := by kernel_rfl
set_option maxRecDepth 100000 in
theorem contract (H : Type) (enc : TypeId × Value → H) (W : World) (base : Nat) (args : Array Value) (ds gs : List (DataW H)) (before : List MemPlace)
    (hval : ∀ (j : Nat) t v, Try.f5.params[j]? = some t → args[j]? = some v → Value.okWide Try.prog W .any base t v)
    (hW : DataW.Whole enc Try.prog Try.f5.params.toList Rows.multiPlaysSpec.vars false W args.toList ds gs before) :
    Calls Try.prog 5 args W fun e W' => ∃ v, e = .returned v ∧ Rows.multiPlaysSpec.post enc Try.prog Try.f5 false true false false W args v W' := by
  have hW' := hW
  obtain ⟨p, q, hA0, hV, rfl, hfz, hnd⟩ := hW
  have hA : DataW.TrodAll enc Try.prog W 0 (fun _ => true) true Try.f5.params.toList args.toList ds p := hA0
  rw [Try.params5] at hA hval
  obtain ⟨rfl, rfl⟩ := trodVars_none hV
  obtain ⟨v0, vs0, d0, ds0, p0, q0, hargs, rfl, rfl, h0, r0⟩ := trodAll_cons hA
  obtain ⟨v1, vs1, d1, ds1, p1, q1, rfl, rfl, rfl, h1, r1⟩ := trodAll_cons r0
  obtain ⟨rfl, rfl, rfl⟩ := trodAll_nil r1
  obtain rfl : args = #[v0, v1] := by cases args; simp_all
  obtain ⟨s, rfl, hs, _⟩ := Opn.open_sl Try.underlying45 rdQl (hval 0 _ v0 rfl rfl) h0
  obtain ⟨k, rfl, rfl, rfl, hk⟩ := open_string Try.underlying9 (hval 1 _ v1 rfl rfl) h1
  refine (walk s k W hs).mono fun e W' ⟨he, bel⟩ => ?_
  subst he
  exact ⟨_, rfl, Opn.law_post laidOut (by kernel_rfl) rfl Try.underlying4 rfl rfl hW' bel⟩
set_option maxRecDepth 100000 in
theorem lifted (os : Os) (started : os.Started) (H : Type) (enc : TypeId × Value → H) :
    ReturnsInHanded {} Try.checked os 5 .any (Rows.multiPlaysSpec.pre6 enc Try.prog Try.f5 Rows.multiPlaysRow.domain false) (Rows.multiPlaysSpec.post enc Try.prog Try.f5 false true false false) := by
  refine returnsInHanded_of_change (C := Try.checked) own started (by kernel_rfl) Try.func5
    (ChangeSpec.witness6 (enc := enc) (C := Try.checked) false ⟨#[], #[.slice none 0 0, .string ByteArray.empty], []⟩ 8 (by kernel_rfl) (by kernel_rfl) (by kernel_rfl) (by kernel_rfl)) ?_
  intro W base args ds gs before hval0 hW hcnd _
  exact contract H enc W base args ds gs before hval0 hW
theorem over : Rows.multiPlaysRow.holds Try.pinned (OpenSpec.ofChange Rows.multiPlaysSpec) :=
  OpenClaim.holds_of_wide 5 Try.f5 rfl rfl rfl rfl rfl rfl rfl ⟨rfl, rfl, rfl, rfl, rfl⟩ rfl rfl rfl rfl rfl (by kernel_rfl) Try.func5 (by kernel_rfl)
    (of_decide_eq_true (by kernel_rfl)) (by unfold Func.isWrapper; first | (rw [if_pos (by decide +kernel)]; kernel_rfl) | (rw [if_neg (by decide +kernel)]; exact ⟨rfl, rfl⟩))
    (fun os started H enc _ => lifted os started H enc)
theorem proved : Rows.MultiPlaysSaid := over
end MultiPlays
end Go.Proofs.Ytgpimeobkacniaa
