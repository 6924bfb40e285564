/-
  'petrellaw25.SeqPlays': whatever is inserted, and deleted: all that is in order, the values that are seen, as bytes. For every input.
-/
import Derived.Test.YtgpimeobkacniaaSqH
import Derived.Test.YtgpimeobkacniaaTx2
import Derived.Test.YtgpimeobkacniaaOpnU
set_option linter.unusedVariables false
set_option linter.unusedSimpArgs false
namespace Go.Proofs.Ytgpimeobkacniaa
open Go.RowKit Go.ChangeShapes Go.WideShapes Go.ChangeAt
namespace SeqPlays
open Oct Ids Sq
open Mem (M It blk ids rows)
theorem gon_step {G Gd : List Wd} (h : Gon G Gd) (x : Ak) : Gon (stA G x) (stG Gd x) := by
  unfold stA stG
  by_cases hc : isI x
  · rw [if_pos hc, if_pos hc]
    exact h
  · rw [if_neg hc, if_neg hc]
    refine ⟨IdL.withL_srt h.srt _, fun u => ?_, ?_⟩
    · rw [IdL.mem_withL, h.mem]
      unfold addG
      split
      · rename_i hu
        exact ⟨fun h => h.elim (fun e => e ▸ hu) id, .inr⟩
      · rw [List.mem_append, List.mem_singleton]
        exact Or.comm
    · unfold addG
      split
      · exact h.nd
      · rename_i hu
        rw [List.nodup_append]
        refine ⟨h.nd, by simp, fun a ha b hb => ?_⟩
        rw [List.mem_singleton.1 hb]
        exact fun e => hu (e ▸ ha)
theorem lst_eq {X : List Dn} {N : Nds} {B : Bhs} {G Gd : List Wd} {O : List Dn} (hi : Inv N B) (ha : Alk X N) (hO : OrdD X N B O) (hg : Gon G Gd) : lstD Gd O = lst N G (ordr N B) := by
  unfold lstD lst
  rw [← hO.eq, List.filter_map, List.map_map]
  have e : O.filter (fun d => decide (d.u ∉ Gd)) = O.filter ((fun y => decide (y ∉ G)) ∘ fun x : Dn => x.u) := List.filter_congr fun d _ => by
    simp only [Function.comp, hg.mem]
  rw [e]
  refine List.map_congr_left fun d hd => ?_
  have hdX := hO.sub d (List.mem_filter.1 hd).1
  show d.x.v = vN N d.u
  unfold vN
  rw [fget_of hi.nk (ha.mem hdX)]
  rfl
set_option maxRecDepth 100000 in
set_option maxHeartbeats 16000000 in
theorem walk (s : Opn.Sl AQ) (w : World) (hs : Opn.SlAt 67 layQ (fun _ x => factN x.2.1) w s) :
    Calls Try.prog 7 #[.slice s.a s.len s.cap] w fun e w' => e = .returned (.bool true) ∧ Below w.heap.size w w' := by
  obtain ⟨hA, hL, hlc, hcm⟩ := aks_of hs
  generalize s.els.map qk = L at hA hL
  generalize s.a = a at hA ⊢
  generalize s.len = n at hA hlc ⊢
  generalize s.cap = c at hlc hcm ⊢
  have HA : Hid (St.At 67 qe w a n L) := hA
  have HL : Hid (∀ x ∈ L, x.d.x.v.size ≤ maxLen) := hL
  unfold maxLen at hcm
  have HMu : Hid (Calls Try.prog 11 #[.slice a n c] w (MuPost w n L)) := smuch_any w a n c L hA hL
  have HM : Hid (M (fun _ => False) w w []) := M.start _ w
  clear hs hA hL
  go_enter Try.func7, Try.ntmps7
  go_wp2_with (first | (go_at_call 11; refine HMu.out.mono ?_; rintro e w1 ⟨⟨p, rfl, k1, hp⟩⟩; have HM : Hid _ := HM.out.calm k1; have HP : Hid _ := hp; clear k1 hp; cases p) | (go_at_call 12; refine (awakeS _).mono ?_; rintro e w9 ⟨rfl, k9⟩; have HM : Hid _ := HM.out.calm k9; clear k9) | (go_at_call 13; refine (snew _).mono ?_; rintro e w2 ⟨b, bn, bb, bg, rfl, m2⟩; have HM : Hid (M (fun _ => False) w w2 [sqI b bn bb bg [] [] []]) := widen m2 HM.out.keep (fun j hj => hj.elim); clear m2))
  rotate_left
  · go_ret
    exact ⟨rfl, Keep.below HM.out.keep (Nat.le_refl _) (fun _ h => h.elim)⟩
  obtain ⟨hn30, hv⟩ := HP.out (by trivial)
  have HV : Hid (∀ x ∈ L, x.d.x.v.size ≤ 100) := hv
  clear hv HP HMu
  obtain ⟨bx, hbx⟩ : ∃ bx, w2.heap.size = bx := ⟨_, rfl⟩
  have HM : Hid (M (fun _ => False) w (w2.alloc (xsc (.slice none 0 0) (.slice none 0 0))) [sqI b bn bb bg [] [] [], xsI bx (.slice none 0 0) (.slice none 0 0) [] []]) := M.xsnew HM.out hbx
  rw [hbx]
  clear hbx
  go_loopw [5] (fun i wr => ∃ (k : Nat) (lv gv : Value) (N : Nds) (B : Bhs) (G : List Wd) (X : List Dn) (Gd : List Wd), k ≤ n ∧ i = .int .i64 k ∧ M (fun _ => False) w wr [sqI b bn bb bg N B G, xsI bx lv gv X Gd] ∧ Inv N B ∧ Alk X N ∧ Gon G Gd ∧ N.length ≤ k ∧ Gd.length ≤ k) (fun i _ => n - (intOf i).toNat)
  case atStart => exact ⟨0, _, _, [], [], [], [], [], Nat.zero_le _, rfl, HM.out, Inv.nil, Alk.nil, Gon.nil, Nat.le_refl _, Nat.le_refl _⟩
  case round =>
    clear HM
    obtain ⟨k, lv, gv, N, B, G, X, Gd, hk, rfl, hM, hI, hAl, hGo, hNl, hGl⟩ := hrel
    have HM : Hid (M (fun _ => False) w wr [sqI b bn bb bg N B G, xsI bx lv gv X Gd]) := hM
    have HI : Hid (Inv N B) := hI
    have HAl : Hid (Alk X N) := hAl
    have HGo : Hid (Gon G Gd) := hGo
    have HNl : Hid (N.length ≤ k) := hNl
    have HGl : Hid (Gd.length ≤ k) := hGl
    have HXl : Hid (X.length ≤ k) := by show _ ≤ _; rw [hAl.len]; exact hNl
    clear hM hI hAl hGo hNl hGl
    by_cases hlt : k < n
    · obtain ⟨x, hx⟩ : ∃ x, L[k]? = some x := ⟨_, List.getElem?_eq_getElem (by rw [HA.out.len]; exact hlt)⟩
      obtain ⟨b1, o1, rfl, hb1, hr1⟩ : ∃ b off, a = some ⟨b, off, none⟩ ∧ b < w.heap.size ∧ ∀ i x, L[i]? = some x → w.rangeAt b (off + i * 67) (qe x) := by rcases HA.out.lay with e | e; omega; exact e
      have R0 : Hid (w.rangeAt b1 (o1 + k * 67) (qe x)) := hr1 k x hx
      have Hb1 : Hid (b1 < w.heap.size) := hb1
      have HQl : Hid ((qe x).length = 67) := qe_len x
      have HVx : Hid (x.d.x.v.size ≤ maxLen) := by have := HV.out x (List.mem_of_getElem? hx); show _ ≤ _; unfold maxLen; omega
      have hN1 : Hid ((stN N x).length ≤ k + 1) := Nat.le_trans (stN_len N x) (Nat.add_le_add_right HNl.out 1)
      have hG1 : Hid ((stG Gd x).length ≤ k + 1) := Nat.le_trans (stG_len Gd x) (Nat.add_le_add_right HGl.out 1)
      have hA1 : Hid (Alk (stX X x) (stN N x)) := alk_step HAl.out x
      have hGo1 : Hid (Gon (stA G x) (stG Gd x)) := gon_step HGo.out x
      clear hr1 hb1 hx
      go_wp2
      have HM : Hid _ := HM.out.drew
      have R1 : Hid _ := HM.out.keep.range Hb1.out (fun h => h) R0.out
      refine Txt.wp_region_two (fun w' => w'.rangeAt b1 (o1 + k * 67) (qe x)) 12 [0, 0, 0, 0, 1, 4, 0, 0, 0, 0, 2, 4] [0, 0, 0, 4, 0, 4, 4, 4, 0, 0, 0, 0, 4, 0, 4, 4, 0, 0, 0, 0, 4, 0, 0, 0, 2, 0, 0, 0] (by kernel_rfl) (by kernel_rfl) (by kernel_rfl) R1.out ?_
      dsimp only [List.take, List.drop]
      (repeat (first | (refine Txt.tl_pure (v := ?_) (by rfl) ?_ ?_; rotate_left; (focus (intro _; go_simp; try with_reducible rfl)); simp only [Act.put, List.setIfInBounds_toArray, List.set_cons_zero, List.set_cons_succ]) | (refine Txt.tl_rowN (n := 67) (ty := 39) (by rfl) (by rfl) (by rfl) R1.out (by kernel_rfl) HQl.out ?_; simp only [Act.put, List.setIfInBounds_toArray, List.set_cons_zero, List.set_cons_succ]) | (refine Txt.tl_rowSN (n := 67) (ty := 39) (by rfl) (by rfl) (by rfl) (fun _ h => h) (by kernel_rfl) HQl.out ?_; simp only [Act.put, List.setIfInBounds_toArray, List.set_cons_zero, List.set_cons_succ])))
      refine Txt.tl_call Try.func14 (by kernel_rfl) (by kernel_rfl) (by rfl) (by rfl) (by rfl) (play_any _ b bn bb bg N B G (HM.out.get 0 rfl) HI.out (by have := HNl.out; omega) x HVx.out) ?_
      rintro e w3 ⟨rfl, B3, t3, i3⟩
      have HI : Hid _ := i3
      have HM : Hid (M (fun _ => False) w w3 [sqI b bn bb bg (stN N x) B3 (stA G x), xsI bx lv gv X Gd]) := M.sto HM.out 0 rfl t3
      clear t3 i3
      have R1 : Hid _ := HM.out.keep.range Hb1.out (fun h => h) R0.out
      refine ⟨_, rfl, R1.out, ?_⟩
      simp only [Act.put, List.setIfInBounds_toArray, List.set_cons_zero, List.set_cons_succ]
      (repeat (first | (refine Txt.tl_pure (v := ?_) (by rfl) ?_ ?_; rotate_left; (focus (intro _; go_simp; try with_reducible rfl)); simp only [Act.put, List.setIfInBounds_toArray, List.set_cons_zero, List.set_cons_succ]) | (refine Txt.tl_rowN (n := 67) (ty := 39) (by rfl) (by rfl) (by rfl) R1.out (by kernel_rfl) HQl.out ?_; simp only [Act.put, List.setIfInBounds_toArray, List.set_cons_zero, List.set_cons_succ]) | (refine Txt.tl_rowSN (n := 67) (ty := 39) (by rfl) (by rfl) (by rfl) (fun _ h => h) (by kernel_rfl) HQl.out ?_; simp only [Act.put, List.setIfInBounds_toArray, List.set_cons_zero, List.set_cons_succ])))
      refine Txt.tl_call Try.func15 (by kernel_rfl) (by kernel_rfl) (by rfl) (by rfl) (by rfl) (told_any _ bx lv gv X Gd (HM.out.get 1 rfl) (by have := HXl.out; omega) (by have := HGl.out; omega) HAl.out.srt x HVx.out) ?_
      rintro e w4 ⟨rfl, lv4, gv4, t4⟩
      have HM : Hid (M (fun _ => False) w w4 [sqI b bn bb bg (stN N x) B3 (stA G x), xsI bx lv4 gv4 (stX X x) (stG Gd x)]) := M.xs HM.out 1 rfl t4
      clear t4
      refine ⟨_, rfl, HM.out.keep.range Hb1.out (fun h => h) R0.out, ?_⟩
      simp only [Act.put, List.setIfInBounds_toArray, List.set_cons_zero, List.set_cons_succ]
      refine Txt.tl_nil ?_
      generalize ans x = an
      generalize stN N x = N2 at HM HI hN1 hA1
      generalize stA G x = G2 at HM hGo1
      generalize stX X x = X2 at HM hA1
      generalize stG Gd x = Gd2 at HM hG1 hGo1
      obtain ⟨xa, xc, ex, _⟩ := (show XsAt w4 bx lv4 gv4 X2 Gd2 from HM.out.get 1 rfl).row
      subst ex
      obtain ⟨m, hm⟩ : ∃ m, X2.length = m := ⟨_, rfl⟩
      have Hm : Hid (X2.length = m) := hm
      have HmN : Hid (N2.length = m) := by show _ = _; rw [← hm, hA1.out.len]
      rw [hm] at HM
      clear hm
      have hm31 : m ≤ 1000 := by have := hN1.out; rw [HmN.out] at this; omega
      have hXm : X2.length ≤ 1000 := by rw [Hm.out]; exact hm31
      have HXm : Hid (X2.length ≤ 1000) := hXm
      have HGm : Hid (Gd2.length ≤ 1000) := by show _ ≤ _; have := hG1.out; omega
      clear hXm
      obtain ⟨o, ho⟩ : ∃ o, ordr N2 B3 = o := ⟨_, rfl⟩
      have Ho : Hid (ordr N2 B3 = o) := ho
      have HOr : Hid (∀ w1, SqAt w1 b bn bb bg N2 B3 G2 → Calls Try.prog 16 #[.pointer (some ⟨b, 0, none⟩)] w1 (OrdPost w1 b bn bb bg N2 B3 G2 o)) := fun w1 h1 => by
        have := order_any w1 b bn bb bg N2 B3 G2 h1 (fun r => Nat.le_trans (HI.out.row_len r) (by have := HmN.out; omega)) N2.length HI.out.dep (Nat.le_trans (HI.out.pre_len _) (by have := HmN.out; omega))
        rwa [show pre (rowsB B3) (N2.length + 1) Zi = o from ho] at this
      obtain ⟨l, hl⟩ : ∃ l, lst N2 G2 o = l := ⟨_, rfl⟩
      have Hl : Hid (lst N2 G2 o = l) := hl
      have HLs : Hid (∀ w1, SqAt w1 b bn bb bg N2 B3 G2 → Calls Try.prog 40 #[.pointer (some ⟨b, 0, none⟩)] w1 (LstPost w1 b bn bb bg N2 B3 G2 l)) := fun w1 h1 => by
        have := slist_any w1 b bn bb bg N2 B3 G2 h1 (fun r => Nat.le_trans (HI.out.row_len r) (by have := HmN.out; omega)) N2.length HI.out.dep (Nat.le_trans (HI.out.pre_len _) (by have := HmN.out; omega))
        rwa [show pre (rowsB B3) (N2.length + 1) Zi = o from ho, hl] at this
      have hoq : o.length ≤ 1000 := by rw [← ho]; exact Nat.le_trans (HI.out.pre_len _) (by have := HmN.out; omega)
      have HLe : Hid (∀ O, OrdD X2 N2 B3 O → lstD Gd2 O = l) := fun O hO => by rw [lst_eq HI.out hA1.out hO hGo1.out, ho, hl]
      clear ho hl
      refine ⟨fun w' => w'.cell? ⟨bx, 0, none⟩ = some (.slice xa m xc), (show XsAt w4 bx (.slice xa m xc) gv4 X2 Gd2 from HM.out.get 1 rfl).cells.1, ?_⟩
      (repeat (first | (refine Txt.tl_pure (v := ?_) (by rfl) ?_ ?_; rotate_left; (focus (intro _; go_simp; try with_reducible rfl)); simp only [Act.put, List.setIfInBounds_toArray, List.set_cons_zero, List.set_cons_succ]) | (refine Txt.tl_loadS (v := .slice xa m xc) (ty := 28) (by rfl) (by rfl) (by rfl) (by kernel_rfl) (fun _ h => h) ?_; simp only [Act.put, List.setIfInBounds_toArray, List.set_cons_zero, List.set_cons_succ])))
      refine Txt.tl_call Try.func16 (by kernel_rfl) (by kernel_rfl) (by rfl) (by rfl) (by rfl) (HOr.out _ (HM.out.get 0 rfl)) ?_
      rintro e w5 ⟨v5, rfl, m5⟩
      have HM : Hid (M (fun _ => False) w w5 [sqI b bn bb bg N2 B3 G2, xsI bx (.slice xa m xc) gv4 X2 Gd2, ids v5 o]) := two HM.out 0 rfl m5
      clear m5
      obtain ⟨a5, c5, e5, _⟩ := (show Ids.Own w5 v5 o from HM.out.get 2 rfl).at
      subst e5
      refine ⟨_, rfl, (show XsAt _ bx (.slice xa m xc) gv4 X2 Gd2 from HM.out.get 1 rfl).cells.1, ?_⟩
      simp only [Act.put, List.setIfInBounds_toArray, List.set_cons_zero, List.set_cons_succ]
      (repeat (first | (refine Txt.tl_pure (v := ?_) (by rfl) ?_ ?_; rotate_left; (focus (intro _; go_simp; try with_reducible rfl)); simp only [Act.put, List.setIfInBounds_toArray, List.set_cons_zero, List.set_cons_succ]) | (refine Txt.tl_loadS (v := .slice xa m xc) (ty := 28) (by rfl) (by rfl) (by rfl) (by kernel_rfl) (fun _ h => h) ?_; simp only [Act.put, List.setIfInBounds_toArray, List.set_cons_zero, List.set_cons_succ])))
      refine Txt.tl_call Try.func39 (by kernel_rfl) (by kernel_rfl) (by rfl) (by rfl) (by rfl) (xord_any _ bx _ gv4 X2 Gd2 (HM.out.get 1 rfl) HXm.out N2 B3 HI.out hA1.out) ?_
      rintro e w6 ⟨O, v6, rfl, n6, hO⟩
      have HO : Hid (OrdD X2 N2 B3 O) := hO
      have HM : Hid (M (fun _ => False) w w6 [sqI b bn bb bg N2 B3 G2, xsI bx (.slice xa m xc) gv4 X2 Gd2, ids (.slice a5 o.length c5) o, rD v6 O]) := M.newr HM.out n6
      clear n6 hO
      obtain ⟨a6, c6, e6, _⟩ := (show St.Own 37 66 de w6 v6 O from HM.out.get 3 rfl).any
      subst e6
      refine ⟨_, rfl, (show XsAt _ bx (.slice xa m xc) gv4 X2 Gd2 from HM.out.get 1 rfl).cells.1, ?_⟩
      simp only [Act.put, List.setIfInBounds_toArray, List.set_cons_zero, List.set_cons_succ]
      (repeat (first | (refine Txt.tl_pure (v := ?_) (by rfl) ?_ ?_; rotate_left; (focus (intro _; go_simp; try with_reducible rfl)); simp only [Act.put, List.setIfInBounds_toArray, List.set_cons_zero, List.set_cons_succ]) | (refine Txt.tl_loadS (v := .slice xa m xc) (ty := 28) (by rfl) (by rfl) (by rfl) (by kernel_rfl) (fun _ h => h) ?_; simp only [Act.put, List.setIfInBounds_toArray, List.set_cons_zero, List.set_cons_succ])))
      refine Txt.tl_call Try.func38 (by kernel_rfl) (by kernel_rfl) (by rfl) (by rfl) (by rfl) (xids_any _ a6 O.length c6 O (own_sl (HM.out.get 3 rfl)).2 (Nat.le_trans (HO.out.len HI.out) (by have := HmN.out; omega))) ?_
      rw [HO.out.eq, Ho.out]
      rintro e w7 ⟨a7, c7, rfl, at7, k7⟩
      have HM : Hid _ := HM.out.calm k7
      clear k7
      refine ⟨_, rfl, (show XsAt _ bx (.slice xa m xc) gv4 X2 Gd2 from HM.out.get 1 rfl).cells.1, ?_⟩
      simp only [Act.put, List.setIfInBounds_toArray, List.set_cons_zero, List.set_cons_succ]
      (repeat (first | (refine Txt.tl_pure (v := ?_) (by rfl) ?_ ?_; rotate_left; (focus (intro _; go_simp; try with_reducible rfl)); simp only [Act.put, List.setIfInBounds_toArray, List.set_cons_zero, List.set_cons_succ]) | (refine Txt.tl_loadS (v := .slice xa m xc) (ty := 28) (by rfl) (by rfl) (by rfl) (by kernel_rfl) (fun _ h => h) ?_; simp only [Act.put, List.setIfInBounds_toArray, List.set_cons_zero, List.set_cons_succ])))
      refine Txt.tl_call Try.func29 (by kernel_rfl) (by kernel_rfl) (by rfl) (by rfl) (by rfl) (same_any _ a5 a7 o.length o.length c5 c7 o o (own_idat (HM.out.get 2 rfl)) at7) ?_
      rw [decide_eq_true rfl]
      rintro e w8 ⟨rfl, k8⟩
      have HM : Hid (M (fun _ => False) w w8 [sqI b bn bb bg N2 B3 G2, xsI bx (.slice xa m xc) gv4 X2 Gd2]) := (HM.out.calm k8).take 2
      clear k8 at7
      refine ⟨_, rfl, (show XsAt _ bx (.slice xa m xc) gv4 X2 Gd2 from HM.out.get 1 rfl).cells.1, ?_⟩
      simp only [Act.put, List.setIfInBounds_toArray, List.set_cons_zero, List.set_cons_succ]
      (repeat (first | (refine Txt.tl_pure (v := ?_) (by rfl) ?_ ?_; rotate_left; (focus (intro _; go_simp; try with_reducible rfl)); simp only [Act.put, List.setIfInBounds_toArray, List.set_cons_zero, List.set_cons_succ]) | (refine Txt.tl_loadS (v := .slice xa m xc) (ty := 28) (by rfl) (by rfl) (by rfl) (by kernel_rfl) (fun _ h => h) ?_; simp only [Act.put, List.setIfInBounds_toArray, List.set_cons_zero, List.set_cons_succ])))
      refine Txt.tl_call Try.func40 (by kernel_rfl) (by kernel_rfl) (by rfl) (by rfl) (by rfl) (HLs.out _ (HM.out.get 0 rfl)) ?_
      rintro e w9 ⟨v9, rfl, m9⟩
      have HM : Hid (M (fun _ => False) w w9 [sqI b bn bb bg N2 B3 G2, xsI bx (.slice xa m xc) gv4 X2 Gd2, rP v9 l]) := two HM.out 0 rfl m9
      clear m9
      obtain ⟨a9, c9, e9, _⟩ := (show St.Own 92 2 pe w9 v9 l from HM.out.get 2 rfl).any
      subst e9
      refine ⟨_, rfl, (show XsAt _ bx (.slice xa m xc) gv4 X2 Gd2 from HM.out.get 1 rfl).cells.1, ?_⟩
      simp only [Act.put, List.setIfInBounds_toArray, List.set_cons_zero, List.set_cons_succ]
      (repeat (first | (refine Txt.tl_pure (v := ?_) (by rfl) ?_ ?_; rotate_left; (focus (intro _; go_simp; try with_reducible rfl)); simp only [Act.put, List.setIfInBounds_toArray, List.set_cons_zero, List.set_cons_succ]) | (refine Txt.tl_loadS (v := .slice xa m xc) (ty := 28) (by rfl) (by rfl) (by rfl) (by kernel_rfl) (fun _ h => h) ?_; simp only [Act.put, List.setIfInBounds_toArray, List.set_cons_zero, List.set_cons_succ])))
      refine Txt.tl_call Try.func41 (by kernel_rfl) (by kernel_rfl) (by rfl) (by rfl) (by rfl) (qlist_any _ bx _ gv4 X2 Gd2 (HM.out.get 1 rfl) HXm.out HGm.out N2 B3 HI.out hA1.out) ?_
      rintro e w10 ⟨O2, v10, hO2, rfl, n10⟩
      rw [HLe.out O2 hO2] at n10
      have HM : Hid (M (fun _ => False) w w10 [sqI b bn bb bg N2 B3 G2, xsI bx (.slice xa m xc) gv4 X2 Gd2, rP (.slice a9 l.length c9) l, rP v10 l]) := M.newr HM.out n10
      clear n10 hO2
      obtain ⟨a10, c10, e10, _⟩ := (show St.Own 92 2 pe w10 v10 l from HM.out.get 3 rfl).any
      subst e10
      refine ⟨_, rfl, (show XsAt _ bx (.slice xa m xc) gv4 X2 Gd2 from HM.out.get 1 rfl).cells.1, ?_⟩
      simp only [Act.put, List.setIfInBounds_toArray, List.set_cons_zero, List.set_cons_succ]
      (repeat (first | (refine Txt.tl_pure (v := ?_) (by rfl) ?_ ?_; rotate_left; (focus (intro _; go_simp; try with_reducible rfl)); simp only [Act.put, List.setIfInBounds_toArray, List.set_cons_zero, List.set_cons_succ]) | (refine Txt.tl_loadS (v := .slice xa m xc) (ty := 28) (by rfl) (by rfl) (by rfl) (by kernel_rfl) (fun _ h => h) ?_; simp only [Act.put, List.setIfInBounds_toArray, List.set_cons_zero, List.set_cons_succ])))
      refine Txt.tl_call Try.func31 (by kernel_rfl) (by kernel_rfl) (by rfl) (by rfl) (by rfl) (pairs_same _ a9 a10 l.length c9 c10 l (own_sl (HM.out.get 2 rfl)).2 (own_sl (HM.out.get 3 rfl)).2) ?_
      rintro e w11 ⟨rfl, k11⟩
      have HM : Hid (M (fun _ => False) w w11 [sqI b bn bb bg N2 B3 G2, xsI bx (.slice xa m xc) gv4 X2 Gd2]) := (HM.out.calm k11).take 2
      clear k11
      refine ⟨_, rfl, (show XsAt _ bx (.slice xa m xc) gv4 X2 Gd2 from HM.out.get 1 rfl).cells.1, ?_⟩
      simp only [Act.put, List.setIfInBounds_toArray, List.set_cons_zero, List.set_cons_succ]
      (repeat (first | (refine Txt.tl_pure (v := ?_) (by rfl) ?_ ?_; rotate_left; (focus (intro _; go_simp; try with_reducible rfl)); simp only [Act.put, List.setIfInBounds_toArray, List.set_cons_zero, List.set_cons_succ]) | (refine Txt.tl_loadS (v := .slice xa m xc) (ty := 28) (by rfl) (by rfl) (by rfl) (by kernel_rfl) (fun _ h => h) ?_; simp only [Act.put, List.setIfInBounds_toArray, List.set_cons_zero, List.set_cons_succ])))
      refine Txt.tl_call Try.func42 (by kernel_rfl) (by kernel_rfl) (by rfl) (by rfl) (by rfl) (slen _ b bn bb bg N2 B3 G2 (HM.out.get 0 rfl)) ?_
      rw [HmN.out]
      rintro e w12 ⟨rfl, h12⟩
      replace h12 := h12.symm
      subst h12
      refine ⟨_, rfl, (show XsAt _ bx (.slice xa m xc) gv4 X2 Gd2 from HM.out.get 1 rfl).cells.1, ?_⟩
      simp only [Act.put, List.setIfInBounds_toArray, List.set_cons_zero, List.set_cons_succ]
      (repeat (first | (refine Txt.tl_pure (v := ?_) (by rfl) ?_ ?_; rotate_left; (focus (intro _; go_simp; try with_reducible rfl)); simp only [Act.put, List.setIfInBounds_toArray, List.set_cons_zero, List.set_cons_succ]) | (refine Txt.tl_loadS (v := .slice xa m xc) (ty := 28) (by rfl) (by rfl) (by rfl) (by kernel_rfl) (fun _ h => h) ?_; simp only [Act.put, List.setIfInBounds_toArray, List.set_cons_zero, List.set_cons_succ])))
      refine Txt.tl_nil ?_
      go_wp2
      go_roundw
      case rel => exact ⟨k + 1, _, gv4, N2, B3, G2, X2, Gd2, by omega, by go_num, HM.out, HI.out, hA1.out, hGo1.out, hN1.out, hG1.out⟩
      case measure => simp [intOf]; omega
    · obtain rfl : n = k := by omega
      have HOk : Hid (∀ d ∈ X, d.x.v.size ≤ 16 ∧ 1 ≤ d.x.h ∧ d.x.h ≤ 1073741824) := fun d hd => by
        have := chk_ok (HI.out.ok _ (HAl.out.mem hd)).2
        exact ⟨this.1, this.2.1, this.2.2.1⟩
      obtain ⟨T, hT⟩ : ∃ T : ByteArray, (⟨(putB X Gd).toArray⟩ : ByteArray) = T := ⟨_, rfl⟩
      have HPu : Hid (∀ w1, SqAt w1 b bn bb bg N B G → Calls Try.prog 43 #[.pointer (some ⟨b, 0, none⟩)] w1 (SPutPost w1 b bn bb bg N B G T)) := fun w1 h1 => by
        have := sput_any w1 b bn bb bg N B G h1 HI.out (by have := HNl.out; omega) (by have := HGo.out.len; have := HGl.out; omega) X Gd HAl.out HGo.out
        rwa [hT] at this
      have HQu : Hid (∀ w1, XsAt w1 bx lv gv X Gd → Calls Try.prog 44 #[.pointer (some ⟨bx, 0, none⟩)] w1 fun e w' => e = .returned (.string T) ∧ Keep (fun _ => False) w1 w') := fun w1 h1 => by
        have := qput_any w1 bx lv gv X Gd h1 (by have := HXl.out; omega) (by have := HGl.out; omega) HOk.out
        rwa [hT] at this
      clear hT
      go_wp2_with (first | (go_at_call 43; refine (HPu.out _ (HM.out.get 0 rfl)).mono ?_; rintro e w3 ⟨rfl, t3⟩; have HM : Hid (M (fun _ => False) w w3 [sqI b bn bb bg N B G, xsI bx lv gv X Gd]) := M.sto HM.out 0 rfl t3; clear t3) | (go_at_call 44; refine (HQu.out _ (HM.out.get 1 rfl)).mono ?_; rintro e w4 ⟨rfl, k4⟩; have HM : Hid _ := HM.out.calm k4; clear k4) | (go_at_call 12; refine (awakeS _).mono ?_; rintro e w9 ⟨rfl, k9⟩; have HM : Hid _ := HM.out.calm k9; clear k9))
      go_ret
      exact ⟨rfl, Keep.below HM.out.keep (Nat.le_refl _) (fun _ h => h.elim)⟩
set_option maxRecDepth 100000 in
theorem own : ownKnob Try.prog.godebug = none := by kernel_rfl
set_option maxRecDepth 100000 in
theorem laidOut : laidOutB Try.prog = true := by kernel_rfl
set_option maxRecDepth 100000 in
theorem contract (H : Type) (enc : TypeId × Value → H) (W : World) (base : Nat) (args : Array Value) (ds gs : List (DataW H)) (before : List MemPlace)
    (hval : ∀ (j : Nat) t v, Try.f7.params[j]? = some t → args[j]? = some v → Value.okWide Try.prog W .any base t v)
    (hW : DataW.Whole enc Try.prog Try.f7.params.toList Rows.seqPlaysSpec.vars false W args.toList ds gs before) :
    Calls Try.prog 7 args W fun e W' => ∃ v, e = .returned v ∧ Rows.seqPlaysSpec.post enc Try.prog Try.f7 false true false false W args v W' := by
  have hW' := hW
  obtain ⟨p, q, hA0, hV, rfl, hfz, hnd⟩ := hW
  have hA : DataW.TrodAll enc Try.prog W 0 (fun _ => true) true Try.f7.params.toList args.toList ds p := hA0
  rw [Try.params7] at hA hval
  obtain ⟨rfl, rfl⟩ := trodVars_none hV
  obtain ⟨v0, vs0, d0, ds0, p0, q0, hargs, rfl, rfl, h0, r0⟩ := trodAll_cons hA
  obtain ⟨rfl, rfl, rfl⟩ := trodAll_nil r0
  obtain rfl : args = #[v0] := by cases args; simp_all
  obtain ⟨s, rfl, hs, _⟩ := Opn.open_sl Try.underlying22 rdQl (hval 0 _ v0 rfl rfl) h0
  refine (walk s W hs).mono fun e W' ⟨he, bel⟩ => ?_
  subst he
  exact ⟨_, rfl, Opn.law_post laidOut (by kernel_rfl) rfl Try.underlying4 rfl rfl hW' bel⟩
set_option maxRecDepth 100000 in
theorem lifted (os : Os) (started : os.Started) (H : Type) (enc : TypeId × Value → H) :
    ReturnsInHanded {} Try.checked os 7 .any (Rows.seqPlaysSpec.pre6 enc Try.prog Try.f7 Rows.seqPlaysRow.domain false) (Rows.seqPlaysSpec.post enc Try.prog Try.f7 false true false false) := by
  refine returnsInHanded_of_change (C := Try.checked) own started (by kernel_rfl) Try.func7
    (ChangeSpec.witness6 (enc := enc) (C := Try.checked) false ⟨#[], #[.slice none 0 0], []⟩ 8 (by kernel_rfl) (by kernel_rfl) (by kernel_rfl) (by kernel_rfl)) ?_
  intro W base args ds gs before hval0 hW hcnd _
  exact contract H enc W base args ds gs before hval0 hW
theorem over : Rows.seqPlaysRow.holds Try.pinned (OpenSpec.ofChange Rows.seqPlaysSpec) :=
  OpenClaim.holds_of_wide 7 Try.f7 rfl rfl rfl rfl rfl rfl rfl ⟨rfl, rfl, rfl, rfl, rfl⟩ rfl rfl rfl rfl rfl (by kernel_rfl) Try.func7 (by kernel_rfl)
    (of_decide_eq_true (by kernel_rfl)) (by unfold Func.isWrapper; first | (rw [if_pos (by decide +kernel)]; kernel_rfl) | (rw [if_neg (by decide +kernel)]; exact ⟨rfl, rfl⟩))
    (fun os started H enc _ => lifted os started H enc)
theorem proved : Rows.SeqPlaysSaid := over
end SeqPlays
end Go.Proofs.Ytgpimeobkacniaa
