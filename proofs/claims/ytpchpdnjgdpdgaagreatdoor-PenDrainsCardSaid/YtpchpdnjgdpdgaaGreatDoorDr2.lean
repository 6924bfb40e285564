/-
  petrellaw18.drained: all that can be taken, when what is taken is known from then on.
-/
import Derived.Test.YtpchpdnjgdpdgaaGreatDoorDr0
import Derived.Test.YtpchpdnjgdpdgaaGreatDoorDr1
set_option linter.unusedVariables false
set_option linter.unusedSimpArgs false
namespace Go.Proofs.YtpchpdnjgdpdgaaGreatDoor
open Go.RowKit
namespace Txt
section
variable {P : Program} {ops : Array Oper} {o : Oper} {a : Act} {w : World} {K : Act → World → Prop} {Q : Exit → Act → World → Prop}
theorem anyw {n fuel : Nat} {listed : Array Bool} (rs : List Nat) (hn : n = fuel + 1) (hr : Region.ready .any ops listed = rs) (hne : rs ≠ []) (h : ∀ i ∈ rs, wpOp P ops Q i (wpAny P .any ops Q fuel (listed.setIfInBounds i true)) a w) : wpAny P .any ops Q n listed a w := by
  subst hn
  exact wpAny_all hr hne h
theorem all1 {p : Nat → Prop} {i : Nat} (h : p i) : ∀ x ∈ [i], p x := fun x hx => by obtain rfl := List.mem_singleton.1 hx; exact h
theorem all2 {p : Nat → Prop} {i j : Nat} (h : p i) (h' : p j) : ∀ x ∈ [i, j], p x := fun x hx => by
  rcases List.mem_cons.1 hx with rfl | hx
  · exact h
  · exact all1 h' x hx
theorem all3 {p : Nat → Prop} {i j m : Nat} (h : p i) (h' : p j) (h'' : p m) : ∀ x ∈ [i, j, m], p x := fun x hx => by
  rcases List.mem_cons.1 hx with rfl | hx
  · exact h
  · exact all2 h' h'' x hx
theorem opw {i : Nat} (ho : ops.toList[i]? = some o) (hw : Region.wanted o (yielded ops a.tmps) = true) (h : o.wp P a w K Q) : wpOp P ops Q i K a w := by
  unfold wpOp
  rw [Array.getElem?_toList] at ho
  rw [ho]
  show (if _ then _ else _)
  rw [if_pos hw]
  exact .inl h
end
end Txt
namespace Dr
open Oct Ids Gn Hd Pn Px Pl
open Mem (M It blk ids rows)
/-- One that waits as it should. -/
structure Gd (x : Wt) : Prop where
  l20 : x.l.length ≤ 20
  T : x.T.size ≤ 1000
  ck : Hd.ck x.l.length x.l x.G x.T x.A x.Q x.Z = 0
  id : Hd.iv x.l.length x.l x.G x.T x.A x.Q x.Z x.m = x.id
theorem tix_rdy {kl : List (List UInt8)} {L : List Wt} {i : Nat} (h : tix kl (L.map ky) = some i) : ∃ x, L[i]? = some x ∧ rdy kl x = true ∧ ∀ (j : Nat) (y : Wt), j < i → L[j]? = some y → rdy kl y = false := by
  have hi := tix_lt h
  unfold tix at h
  rw [List.findIdx?_eq_some_iff_getElem] at h
  obtain ⟨h1, hp, hb⟩ := h
  refine ⟨L[i], List.getElem?_eq_getElem hi, ?_, fun j y hj hy => ?_⟩
  · rw [rdy_is]
    rw [List.getElem_map] at hp
    exact hp
  · rw [rdy_is]
    have := hb j hj
    rw [List.getElem_map, (List.getElem?_eq_some_iff.1 hy).2] at this
    have e : ¬ ((IdL.lessL y.l kl).length == 0) = true := this
    unfold rdx
    simpa using e
/-- What draining comes to. -/
structure DrPost (w : World) (b : Nat) (v : Value) (L : List Wt) (lost : Int) (e : Ending) (w' : World) : Prop where
  ex : ∃ v' R O vo vk, e = .returned (.tuple #[vo, vk]) ∧ M (foot b v L) w w' [penP b v' R L lost, rH vo O, rI vk O] ∧ DrInv (L.map ky) (O.map ky) (R.map ky) ∧ tix (O.map fun x : Wt => x.id) (R.map ky) = none ∧ (∀ x ∈ R, x ∈ L) ∧ (∀ x ∈ O, x ∈ L)
set_option maxRecDepth 100000 in
set_option maxHeartbeats 8000000 in
theorem drained_any (w : World) (hF : Sha.TabF w) (hK : Sha.TabK w) (b : Nat) (v : Value) (L : List Wt) (lost : Int) (h : PenAt w b v L lost) (hl : L.length ≤ 8) (hg : ∀ x ∈ L, Gd x) (hfF : ¬ foot b v L 0) (hfK : ¬ foot b v L 1) :
    Calls Tryz.prog 10 #[.pointer (some ⟨b, 0, none⟩), .slice none 0 0] w (DrPost w b v L lost) := by
  have HL8 : Hid (L.length ≤ 8) := hl
  have HG : Hid (∀ x ∈ L, Gd x) := hg
  have HTF : Hid (∀ w', Keep (foot b v L) w w' → Sha.TabF w') := fun w' k => hF.keep k hfF
  have HTK : Hid (∀ w', Keep (foot b v L) w w' → Sha.TabK w') := fun w' k => hK.keep k hfK
  have HBs : Hid (∀ k, foot b v L k → k < w.heap.size) := fun k hk => by
    rcases hk with (hk | hk) | hk
    · exact (h.all.rng 0 _ rfl k hk).2
    · exact (h.all.rng 1 _ rfl k hk).2
    · exact (h.all.rng 2 _ rfl k hk).2
  have HM : Hid (M (foot b v L) w w [penP b v L L lost, rH (.slice none 0 0) [], rI (.slice none 0 0) []]) := ((Mem.M.start1 (x := penP b v L L lost) (PenP.of h) HBs.out).nilR 30 38 hv).nilR 28 32 eI
  clear hF hK h hl hg hfF hfK
  go_enter Tryz.func10, Tryz.ntmps10
  go_wp2
  go_loopw [1, 6, 7] (fun s1 s6 s7 wr => ∃ (k : Nat) (v' vk vo : Value) (R O : List Wt), s1 = vk ∧ s6 = vo ∧ s7 = .int .i64 k ∧ O.length = k ∧ DrInv (L.map ky) (O.map ky) (R.map ky) ∧ (∀ x ∈ R, x ∈ L) ∧ (∀ x ∈ O, x ∈ L) ∧ M (foot b v L) w wr [penP b v' R L lost, rH vo O, rI vk O]) (fun _ _ s7 _ => 20 - (intOf s7).toNat)
  case atStart => exact ⟨0, v, _, _, L, [], rfl, rfl, by go_num, rfl, DrInv.start _, fun x hx => hx, fun x hx => (by cases hx), HM.out⟩
  case round =>
    clear HM
    obtain ⟨k, v', vk, vo, R, O, e1, e2, rfl, hk, hd, hR, hO, hM⟩ := hrel
    replace e1 := e1.symm
    replace e2 := e2.symm
    subst e1 e2
    have HM : Hid _ := hM
    have HD : Hid (DrInv (L.map ky) (O.map ky) (R.map ky)) := hd
    have HR : Hid (∀ x ∈ R, x ∈ L) := hR
    have HO : Hid (∀ x ∈ O, x ∈ L) := hO
    have hdl := hd.len
    simp only [List.length_map] at hdl
    have Hk : Hid (O.length = k) := hk
    have h8 := HL8.out
    have hk8 : k ≤ 8 := by omega
    have hk20 : (k : Int) < 20 := by omega
    have HRl : Hid (R.length ≤ 8) := (by omega : R.length ≤ 8)
    obtain ⟨ka, kc, e3, _⟩ := (show St.Own _ 32 eI wr vk O from HM.out.get 2 rfl).any
    subst e3
    have AK : Hid (∀ wr, M (foot b v L) w wr [penP b v' R L lost, rH vo O, rI (.slice ka O.length kc) O] → At wr ka O.length (O.map fun x : Wt => x.id)) := fun wr h => at_ids (own_sl (show St.Own _ 32 eI wr (.slice ka O.length kc) O from h.get 2 rfl))
    clear hM hd hR hO hdl h8
    cases htx : tix (O.map fun x : Wt => x.id) (R.map ky) with
    | none =>
      have HT1 : Hid (Calls Tryz.prog 35 #[.pointer (some ⟨b, 0, none⟩), .slice ka O.length kc] wr fun e w' => e = .returned (.tuple #[.agg hz0, .int .i64 0, .bool false]) ∧ Keep (fun _ => False) wr w') := ptake_no wr b v' R lost (PenP.at (show PenP wr b v' R L lost from HM.out.get 0 rfl) HR.out) (by have := HRl.out; omega) ka O.length kc _ (AK.out _ HM.out) (by omega) htx
      have Htx : Hid (tix (O.map fun x : Wt => x.id) (R.map ky) = none) := htx
      clear htx
      obtain ⟨q, hq⟩ : ∃ q, O.length = q := ⟨_, rfl⟩
      rw [hq] at HT1 HM AK ⊢
      go_wp2_with (first | (go_at_call 35; refine HT1.out.mono ?_; rintro e w2 ⟨rfl, k2⟩; have HM : Hid _ := HM.out.calm k2; clear k2) | (refine St.wl_alloc tyH rfl rfl (by (try simp only [World.size_alloc]); rfl) ?_; simp only [Act.put, List.setIfInBounds_toArray, List.set_cons_zero, List.set_cons_succ]) | (refine St.wl_storeN (W := w2) tyH rfl rfl rfl rfl rfl (by (try simp only [World.size_alloc])) (show _ = Value.agg hz0 from rfl) rfl rfl (hd_one _ _ _ _ _ _ _ _ _) ?_; have HM : Hid _ := HM.out.alloc (.cells hz0 30) rfl))
      go_ret2
      exact ⟨v', R, O, _, _, rfl, HM.out.take 3, HD.out, Htx.out, HR.out, HO.out⟩
    | some i =>
      obtain ⟨x, hx, hp, hb⟩ := tix_rdy htx
      have HT1 : Hid (Calls Tryz.prog 35 #[.pointer (some ⟨b, 0, none⟩), .slice ka O.length kc] wr fun e w' => e = .returned (.tuple #[.agg (hv x).toArray, .int .i64 x.fr, .bool true]) ∧ ∃ v2, PTo wr w' b v' L v2 (R.take i ++ R.drop (i + 1)) lost) := ptakeP wr b v' R L lost (show PenP wr b v' R L lost from HM.out.get 0 rfl) HR.out (by have := HRl.out; omega) ka O.length kc _ (AK.out _ HM.out) (by omega) i x hx hp hb
      have HXm : Hid (x ∈ L) := HR.out x (List.mem_of_getElem? hx)
      have HDn : Hid (DrInv (L.map ky) ((O ++ [x]).map ky) ((R.take i ++ R.drop (i + 1)).map ky)) := by
        show DrInv _ _ _
        obtain ⟨k2, hk2, hp2⟩ := tix_at htx
        rw [List.getElem?_map, hx] at hk2
        cases hk2
        have := HD.out.next (i := i) (k := ky x) (by rw [List.getElem?_map, hx]; rfl) (fun y hy => by rw [kid_ky]; exact hp2 y hy)
        rwa [List.map_append, List.map_append, List.map_take, List.map_drop]
      have HId : Hid (∀ w', Sha.TabF w' → Sha.TabK w' → At w' x.a x.n x.l → Calls Tryz.prog 37 #[.agg (hv x).toArray] w' fun e w'' => e = .returned (.tuple #[.agg (eI x).toArray, .int .i64 0]) ∧ Keep (fun _ => False) w' w'') := fun w' h1 h2 h3 => by
        have hgx := HG.out x HXm.out
        have h20 := hgx.l20
        have hT := hgx.T
        have := ident_any w' h1 h2 x.a x.n x.c x.l x.G x.T x.A x.Q x.Z x.m h3 x.hm (by rw [← h3.len]; omega) (by unfold maxLen; omega)
        rw [← h3.len, hgx.ck, hgx.id] at this
        rw [h3.len] at this
        exact this
      have Hsx : Hid ((hv x).toArray.size = 38) := by show _ = _; rw [List.size_toArray, hv_len]
      have Hsi : Hid ((eI x).toArray.size = 32) := by show _ = _; rw [List.size_toArray]; exact Px.encI.len x
      have HRn : Hid (∀ y ∈ R.take i ++ R.drop (i + 1), y ∈ L) := fun y hy => HR.out y (mem_cut2 hy)
      clear htx hx hp hb AK
      rw [hk] at HT1 HM ⊢
      have Hq : Hid (O.length = k) := hk
      clear hk
      go_wp2_with (first | (go_at_call 35; refine HT1.out.mono ?_; rintro e w2 ⟨rfl, v2, t2⟩; have HM : Hid _ := M.penp HM.out 0 rfl t2; have HW : Hid (Keep (foot b v L) w w2) := HM.out.keep; clear t2) | ((with_reducible refine at_alloc 30 ?_); refine St.wl_alloc tyH rfl rfl (by (try simp only [World.size_alloc]); rfl) ?_; simp only [Act.put, List.setIfInBounds_toArray, List.set_cons_zero, List.set_cons_succ]) | ((with_reducible refine at_store 30 ?_); refine St.wl_storeN (W := w2) tyH rfl rfl rfl rfl rfl (by (try simp only [World.size_alloc])) (show _ = Value.agg (hv x).toArray from rfl) Hsx.out rfl (Px.encH.all x) ?_; have HM : Hid _ := HM.out.alloc (.cells (hv x).toArray 30) rfl) | ((with_reducible refine at_load 30 ?_); refine St.wl_load tyH (by rfl) rfl rfl (HM.out.range 3 rfl) (hv_len x) ?_; simp only [Act.put, List.setIfInBounds_toArray, List.set_cons_zero, List.set_cons_succ]) | (go_at_call 37; refine (HId.out _ (HTF.out _ HM.out.keep) (HTK.out _ HM.out.keep) ((show PenP _ b v2 (R.take i ++ R.drop (i + 1)) L lost from HM.out.get 0 rfl).par x HXm.out)).mono ?_; rintro e w3 ⟨rfl, k3⟩; have HM : Hid _ := HM.out.calm k3; clear k3) | ((with_reducible refine at_alloc 28 ?_); refine St.wl_alloc tyI rfl rfl (by (try simp only [World.size_alloc]); rfl) ?_; simp only [Act.put, List.setIfInBounds_toArray, List.set_cons_zero, List.set_cons_succ]) | ((with_reducible refine at_store 28 ?_); refine St.wl_storeN (W := w3) tyI rfl rfl rfl rfl rfl (by (try simp only [World.size_alloc])) (show _ = Value.agg (eI x).toArray from rfl) Hsi.out rfl (Px.encI.all x) ?_; have HM : Hid _ := HM.out.alloc (.cells (eI x).toArray 28) rfl))
      obtain ⟨hb, hhb⟩ : ∃ b, w2.heap.size = b := ⟨_, rfl⟩
      obtain ⟨ib, hib⟩ : ∃ b, w3.heap.size = b := ⟨_, rfl⟩
      rw [hhb, hib] at HM ⊢
      clear hhb hib HW
      refine Txt.region_to (fun a a' w' => ∃ (u0 u2 u4 vk' : Value), a' = (((((((a.put (some 31) (u0)).put (some 32) (.slice ka k kc)).put (some 33) (u2)).put (some 34) (.agg (eI x).toArray)).put (some 35) (u4)).put (some 36) (vk')).put (some 1) (vk')) ∧ Hid (M (foot b v L) w w' [penP b v2 (R.take i ++ R.drop (i + 1)) L lost, rH vo O, rI vk' (O ++ [x]), blk hb (.cells (hv x).toArray 30), blk ib (.cells (eI x).toArray 28)])) ?_ ?_
      · refine wp_region_any (by kernel_rfl) ?_
        change wpAny _ _ _ _ _ _ _ (World.drew _)
        have HM : Hid _ := HM.out.drew
        refine wpAny_take (i := 1) (v := ?_) rfl (by kernel_rfl) (by kernel_rfl) (by kernel_rfl) (fun _ _ _ h => by cases h.1) (Or.inl ⟨by rfl, ?_⟩) ?_; rotate_left; (focus (intro w; go_simp; try with_reducible rfl)); simp only [Act.put, List.setIfInBounds_toArray, List.set_cons_zero, List.set_cons_succ]
        refine Txt.anyw [0, 3] rfl (by kernel_rfl) (by simp) (Txt.all2 ?_ ?_)
        · refine Txt.opw rfl (Txt.wanted_none rfl) ?_
          refine St.wp_build0z slI rfl ?_; have HM : Hid _ := Mem.M.row0 HM.out (T := 28) Px.encI rfl; simp only [Act.put, List.setIfInBounds_toArray, List.set_cons_zero, List.set_cons_succ]
          refine Txt.anyw [2, 3] rfl (by kernel_rfl) (by simp) (Txt.all2 ?_ ?_)
          · refine Txt.opw rfl (Txt.wanted_none rfl) ?_
            first | (refine St.wp_appRz Px.encI slI (by decide) rfl rfl (HM.out.get 5 rfl) rfl (own_sl (HM.out.get 2 rfl)) (by simp; omega) ?_; intro v6 w6 h6 k6 g6; have HM : Hid _ := HM.out.appR 5 rfl h6 k6 g6; rw [List.nil_append] at HM; clear h6 k6 g6; simp only [Act.put, List.setIfInBounds_toArray, List.set_cons_zero, List.set_cons_succ]) | (refine St.wp_appRz Px.encI slI (by decide) rfl rfl (HM.out.get 6 rfl) rfl (own_sl (HM.out.get 2 rfl)) (by simp; omega) ?_; intro v6 w6 h6 k6 g6; have HM : Hid _ := HM.out.appR 6 rfl h6 k6 g6; rw [List.nil_append] at HM; clear h6 k6 g6; simp only [Act.put, List.setIfInBounds_toArray, List.set_cons_zero, List.set_cons_succ])
            refine Txt.anyw [3] rfl (by kernel_rfl) (by simp) (Txt.all1 ?_)
            refine Txt.opw rfl (Txt.wanted_none rfl) ?_
            refine Txt.wp_ldN (n := 32) (ty := 28) rfl rfl (HM.out.range 4 rfl) (by kernel_rfl) (Px.encI.len x) ?_; simp only [Act.put, List.setIfInBounds_toArray, List.set_cons_zero, List.set_cons_succ]
            refine Txt.anyw [4] rfl (by kernel_rfl) (by simp) (Txt.all1 ?_)
            refine Txt.opw rfl (Txt.wanted_none rfl) ?_
            refine St.wp_build slI (by decide) rfl (Px.encI.len x) rfl ?_; have HM : Hid _ := HM.out.alloc (.cells (eI x).toArray 28) rfl; simp only [Act.put, List.setIfInBounds_toArray, List.set_cons_zero, List.set_cons_succ]
            refine Txt.anyw [5] rfl (by kernel_rfl) (by simp) (Txt.all1 ?_)
            refine Txt.opw rfl (Txt.wanted_none rfl) ?_
            first | (refine St.wp_app1z Px.encI slI (by decide) rfl rfl (HM.out.get 5 rfl) rfl x rfl (HM.out.get 6 rfl) (by have := Hq.out; omega) ?_; intro v7 w7 h7 k7 g7; have HM : Hid _ := HM.out.appR 5 rfl h7 k7 g7; clear h7 k7 g7; simp only [Act.put, List.setIfInBounds_toArray, List.set_cons_zero, List.set_cons_succ]) | (refine St.wp_app1z Px.encI slI (by decide) rfl rfl (HM.out.get 6 rfl) rfl x rfl (HM.out.get 5 rfl) (by have := Hq.out; omega) ?_; intro v7 w7 h7 k7 g7; have HM : Hid _ := HM.out.appR 6 rfl h7 k7 g7; clear h7 k7 g7; simp only [Act.put, List.setIfInBounds_toArray, List.set_cons_zero, List.set_cons_succ])
            refine wpAny_take (i := 6) (v := ?_) rfl (by kernel_rfl) (by kernel_rfl) (by kernel_rfl) (fun _ _ _ h => by cases h.1) (Or.inl ⟨by rfl, ?_⟩) ?_; rotate_left; (focus (intro w; go_simp; try with_reducible rfl)); simp only [Act.put, List.setIfInBounds_toArray, List.set_cons_zero, List.set_cons_succ]
            refine wpAny_done (by kernel_rfl) ?_ _
            refine ⟨rfl, ?_⟩
            first | exact ⟨_, _, _, _, rfl, HM.out.sub _ [0, 1, 5, 3, 4] (by decide) rfl⟩ | exact ⟨_, _, _, _, rfl, HM.out.sub _ [0, 1, 6, 3, 4] (by decide) rfl⟩
          · refine Txt.opw rfl (Txt.wanted_none rfl) ?_
            refine Txt.wp_ldN (n := 32) (ty := 28) rfl rfl (HM.out.range 4 rfl) (by kernel_rfl) (Px.encI.len x) ?_; simp only [Act.put, List.setIfInBounds_toArray, List.set_cons_zero, List.set_cons_succ]
            refine Txt.anyw [2, 4] rfl (by kernel_rfl) (by simp) (Txt.all2 ?_ ?_)
            · refine Txt.opw rfl (Txt.wanted_none rfl) ?_
              first | (refine St.wp_appRz Px.encI slI (by decide) rfl rfl (HM.out.get 5 rfl) rfl (own_sl (HM.out.get 2 rfl)) (by simp; omega) ?_; intro v6 w6 h6 k6 g6; have HM : Hid _ := HM.out.appR 5 rfl h6 k6 g6; rw [List.nil_append] at HM; clear h6 k6 g6; simp only [Act.put, List.setIfInBounds_toArray, List.set_cons_zero, List.set_cons_succ]) | (refine St.wp_appRz Px.encI slI (by decide) rfl rfl (HM.out.get 6 rfl) rfl (own_sl (HM.out.get 2 rfl)) (by simp; omega) ?_; intro v6 w6 h6 k6 g6; have HM : Hid _ := HM.out.appR 6 rfl h6 k6 g6; rw [List.nil_append] at HM; clear h6 k6 g6; simp only [Act.put, List.setIfInBounds_toArray, List.set_cons_zero, List.set_cons_succ])
              refine Txt.anyw [4] rfl (by kernel_rfl) (by simp) (Txt.all1 ?_)
              refine Txt.opw rfl (Txt.wanted_none rfl) ?_
              refine St.wp_build slI (by decide) rfl (Px.encI.len x) rfl ?_; have HM : Hid _ := HM.out.alloc (.cells (eI x).toArray 28) rfl; simp only [Act.put, List.setIfInBounds_toArray, List.set_cons_zero, List.set_cons_succ]
              refine Txt.anyw [5] rfl (by kernel_rfl) (by simp) (Txt.all1 ?_)
              refine Txt.opw rfl (Txt.wanted_none rfl) ?_
              first | (refine St.wp_app1z Px.encI slI (by decide) rfl rfl (HM.out.get 5 rfl) rfl x rfl (HM.out.get 6 rfl) (by have := Hq.out; omega) ?_; intro v7 w7 h7 k7 g7; have HM : Hid _ := HM.out.appR 5 rfl h7 k7 g7; clear h7 k7 g7; simp only [Act.put, List.setIfInBounds_toArray, List.set_cons_zero, List.set_cons_succ]) | (refine St.wp_app1z Px.encI slI (by decide) rfl rfl (HM.out.get 6 rfl) rfl x rfl (HM.out.get 5 rfl) (by have := Hq.out; omega) ?_; intro v7 w7 h7 k7 g7; have HM : Hid _ := HM.out.appR 6 rfl h7 k7 g7; clear h7 k7 g7; simp only [Act.put, List.setIfInBounds_toArray, List.set_cons_zero, List.set_cons_succ])
              refine wpAny_take (i := 6) (v := ?_) rfl (by kernel_rfl) (by kernel_rfl) (by kernel_rfl) (fun _ _ _ h => by cases h.1) (Or.inl ⟨by rfl, ?_⟩) ?_; rotate_left; (focus (intro w; go_simp; try with_reducible rfl)); simp only [Act.put, List.setIfInBounds_toArray, List.set_cons_zero, List.set_cons_succ]
              refine wpAny_done (by kernel_rfl) ?_ _
              refine ⟨rfl, ?_⟩
              first | exact ⟨_, _, _, _, rfl, HM.out.sub _ [0, 1, 5, 3, 4] (by decide) rfl⟩ | exact ⟨_, _, _, _, rfl, HM.out.sub _ [0, 1, 6, 3, 4] (by decide) rfl⟩
            · refine Txt.opw rfl (Txt.wanted_none rfl) ?_
              refine St.wp_build slI (by decide) rfl (Px.encI.len x) rfl ?_; have HM : Hid _ := HM.out.alloc (.cells (eI x).toArray 28) rfl; simp only [Act.put, List.setIfInBounds_toArray, List.set_cons_zero, List.set_cons_succ]
              refine Txt.anyw [2] rfl (by kernel_rfl) (by simp) (Txt.all1 ?_)
              refine Txt.opw rfl (Txt.wanted_none rfl) ?_
              first | (refine St.wp_appRz Px.encI slI (by decide) rfl rfl (HM.out.get 5 rfl) rfl (own_sl (HM.out.get 2 rfl)) (by simp; omega) ?_; intro v6 w6 h6 k6 g6; have HM : Hid _ := HM.out.appR 5 rfl h6 k6 g6; rw [List.nil_append] at HM; clear h6 k6 g6; simp only [Act.put, List.setIfInBounds_toArray, List.set_cons_zero, List.set_cons_succ]) | (refine St.wp_appRz Px.encI slI (by decide) rfl rfl (HM.out.get 6 rfl) rfl (own_sl (HM.out.get 2 rfl)) (by simp; omega) ?_; intro v6 w6 h6 k6 g6; have HM : Hid _ := HM.out.appR 6 rfl h6 k6 g6; rw [List.nil_append] at HM; clear h6 k6 g6; simp only [Act.put, List.setIfInBounds_toArray, List.set_cons_zero, List.set_cons_succ])
              refine Txt.anyw [5] rfl (by kernel_rfl) (by simp) (Txt.all1 ?_)
              refine Txt.opw rfl (Txt.wanted_none rfl) ?_
              first | (refine St.wp_app1z Px.encI slI (by decide) rfl rfl (HM.out.get 5 rfl) rfl x rfl (HM.out.get 6 rfl) (by have := Hq.out; omega) ?_; intro v7 w7 h7 k7 g7; have HM : Hid _ := HM.out.appR 5 rfl h7 k7 g7; clear h7 k7 g7; simp only [Act.put, List.setIfInBounds_toArray, List.set_cons_zero, List.set_cons_succ]) | (refine St.wp_app1z Px.encI slI (by decide) rfl rfl (HM.out.get 6 rfl) rfl x rfl (HM.out.get 5 rfl) (by have := Hq.out; omega) ?_; intro v7 w7 h7 k7 g7; have HM : Hid _ := HM.out.appR 6 rfl h7 k7 g7; clear h7 k7 g7; simp only [Act.put, List.setIfInBounds_toArray, List.set_cons_zero, List.set_cons_succ])
              refine wpAny_take (i := 6) (v := ?_) rfl (by kernel_rfl) (by kernel_rfl) (by kernel_rfl) (fun _ _ _ h => by cases h.1) (Or.inl ⟨by rfl, ?_⟩) ?_; rotate_left; (focus (intro w; go_simp; try with_reducible rfl)); simp only [Act.put, List.setIfInBounds_toArray, List.set_cons_zero, List.set_cons_succ]
              refine wpAny_done (by kernel_rfl) ?_ _
              refine ⟨rfl, ?_⟩
              first | exact ⟨_, _, _, _, rfl, HM.out.sub _ [0, 1, 5, 3, 4] (by decide) rfl⟩ | exact ⟨_, _, _, _, rfl, HM.out.sub _ [0, 1, 6, 3, 4] (by decide) rfl⟩
        · refine Txt.opw rfl (Txt.wanted_none rfl) ?_
          refine Txt.wp_ldN (n := 32) (ty := 28) rfl rfl (HM.out.range 4 rfl) (by kernel_rfl) (Px.encI.len x) ?_; simp only [Act.put, List.setIfInBounds_toArray, List.set_cons_zero, List.set_cons_succ]
          refine Txt.anyw [0, 4] rfl (by kernel_rfl) (by simp) (Txt.all2 ?_ ?_)
          · refine Txt.opw rfl (Txt.wanted_none rfl) ?_
            refine St.wp_build0z slI rfl ?_; have HM : Hid _ := Mem.M.row0 HM.out (T := 28) Px.encI rfl; simp only [Act.put, List.setIfInBounds_toArray, List.set_cons_zero, List.set_cons_succ]
            refine Txt.anyw [2, 4] rfl (by kernel_rfl) (by simp) (Txt.all2 ?_ ?_)
            · refine Txt.opw rfl (Txt.wanted_none rfl) ?_
              first | (refine St.wp_appRz Px.encI slI (by decide) rfl rfl (HM.out.get 5 rfl) rfl (own_sl (HM.out.get 2 rfl)) (by simp; omega) ?_; intro v6 w6 h6 k6 g6; have HM : Hid _ := HM.out.appR 5 rfl h6 k6 g6; rw [List.nil_append] at HM; clear h6 k6 g6; simp only [Act.put, List.setIfInBounds_toArray, List.set_cons_zero, List.set_cons_succ]) | (refine St.wp_appRz Px.encI slI (by decide) rfl rfl (HM.out.get 6 rfl) rfl (own_sl (HM.out.get 2 rfl)) (by simp; omega) ?_; intro v6 w6 h6 k6 g6; have HM : Hid _ := HM.out.appR 6 rfl h6 k6 g6; rw [List.nil_append] at HM; clear h6 k6 g6; simp only [Act.put, List.setIfInBounds_toArray, List.set_cons_zero, List.set_cons_succ])
              refine Txt.anyw [4] rfl (by kernel_rfl) (by simp) (Txt.all1 ?_)
              refine Txt.opw rfl (Txt.wanted_none rfl) ?_
              refine St.wp_build slI (by decide) rfl (Px.encI.len x) rfl ?_; have HM : Hid _ := HM.out.alloc (.cells (eI x).toArray 28) rfl; simp only [Act.put, List.setIfInBounds_toArray, List.set_cons_zero, List.set_cons_succ]
              refine Txt.anyw [5] rfl (by kernel_rfl) (by simp) (Txt.all1 ?_)
              refine Txt.opw rfl (Txt.wanted_none rfl) ?_
              first | (refine St.wp_app1z Px.encI slI (by decide) rfl rfl (HM.out.get 5 rfl) rfl x rfl (HM.out.get 6 rfl) (by have := Hq.out; omega) ?_; intro v7 w7 h7 k7 g7; have HM : Hid _ := HM.out.appR 5 rfl h7 k7 g7; clear h7 k7 g7; simp only [Act.put, List.setIfInBounds_toArray, List.set_cons_zero, List.set_cons_succ]) | (refine St.wp_app1z Px.encI slI (by decide) rfl rfl (HM.out.get 6 rfl) rfl x rfl (HM.out.get 5 rfl) (by have := Hq.out; omega) ?_; intro v7 w7 h7 k7 g7; have HM : Hid _ := HM.out.appR 6 rfl h7 k7 g7; clear h7 k7 g7; simp only [Act.put, List.setIfInBounds_toArray, List.set_cons_zero, List.set_cons_succ])
              refine wpAny_take (i := 6) (v := ?_) rfl (by kernel_rfl) (by kernel_rfl) (by kernel_rfl) (fun _ _ _ h => by cases h.1) (Or.inl ⟨by rfl, ?_⟩) ?_; rotate_left; (focus (intro w; go_simp; try with_reducible rfl)); simp only [Act.put, List.setIfInBounds_toArray, List.set_cons_zero, List.set_cons_succ]
              refine wpAny_done (by kernel_rfl) ?_ _
              refine ⟨rfl, ?_⟩
              first | exact ⟨_, _, _, _, rfl, HM.out.sub _ [0, 1, 5, 3, 4] (by decide) rfl⟩ | exact ⟨_, _, _, _, rfl, HM.out.sub _ [0, 1, 6, 3, 4] (by decide) rfl⟩
            · refine Txt.opw rfl (Txt.wanted_none rfl) ?_
              refine St.wp_build slI (by decide) rfl (Px.encI.len x) rfl ?_; have HM : Hid _ := HM.out.alloc (.cells (eI x).toArray 28) rfl; simp only [Act.put, List.setIfInBounds_toArray, List.set_cons_zero, List.set_cons_succ]
              refine Txt.anyw [2] rfl (by kernel_rfl) (by simp) (Txt.all1 ?_)
              refine Txt.opw rfl (Txt.wanted_none rfl) ?_
              first | (refine St.wp_appRz Px.encI slI (by decide) rfl rfl (HM.out.get 5 rfl) rfl (own_sl (HM.out.get 2 rfl)) (by simp; omega) ?_; intro v6 w6 h6 k6 g6; have HM : Hid _ := HM.out.appR 5 rfl h6 k6 g6; rw [List.nil_append] at HM; clear h6 k6 g6; simp only [Act.put, List.setIfInBounds_toArray, List.set_cons_zero, List.set_cons_succ]) | (refine St.wp_appRz Px.encI slI (by decide) rfl rfl (HM.out.get 6 rfl) rfl (own_sl (HM.out.get 2 rfl)) (by simp; omega) ?_; intro v6 w6 h6 k6 g6; have HM : Hid _ := HM.out.appR 6 rfl h6 k6 g6; rw [List.nil_append] at HM; clear h6 k6 g6; simp only [Act.put, List.setIfInBounds_toArray, List.set_cons_zero, List.set_cons_succ])
              refine Txt.anyw [5] rfl (by kernel_rfl) (by simp) (Txt.all1 ?_)
              refine Txt.opw rfl (Txt.wanted_none rfl) ?_
              first | (refine St.wp_app1z Px.encI slI (by decide) rfl rfl (HM.out.get 5 rfl) rfl x rfl (HM.out.get 6 rfl) (by have := Hq.out; omega) ?_; intro v7 w7 h7 k7 g7; have HM : Hid _ := HM.out.appR 5 rfl h7 k7 g7; clear h7 k7 g7; simp only [Act.put, List.setIfInBounds_toArray, List.set_cons_zero, List.set_cons_succ]) | (refine St.wp_app1z Px.encI slI (by decide) rfl rfl (HM.out.get 6 rfl) rfl x rfl (HM.out.get 5 rfl) (by have := Hq.out; omega) ?_; intro v7 w7 h7 k7 g7; have HM : Hid _ := HM.out.appR 6 rfl h7 k7 g7; clear h7 k7 g7; simp only [Act.put, List.setIfInBounds_toArray, List.set_cons_zero, List.set_cons_succ])
              refine wpAny_take (i := 6) (v := ?_) rfl (by kernel_rfl) (by kernel_rfl) (by kernel_rfl) (fun _ _ _ h => by cases h.1) (Or.inl ⟨by rfl, ?_⟩) ?_; rotate_left; (focus (intro w; go_simp; try with_reducible rfl)); simp only [Act.put, List.setIfInBounds_toArray, List.set_cons_zero, List.set_cons_succ]
              refine wpAny_done (by kernel_rfl) ?_ _
              refine ⟨rfl, ?_⟩
              first | exact ⟨_, _, _, _, rfl, HM.out.sub _ [0, 1, 5, 3, 4] (by decide) rfl⟩ | exact ⟨_, _, _, _, rfl, HM.out.sub _ [0, 1, 6, 3, 4] (by decide) rfl⟩
          · refine Txt.opw rfl (Txt.wanted_none rfl) ?_
            refine St.wp_build slI (by decide) rfl (Px.encI.len x) rfl ?_; have HM : Hid _ := HM.out.alloc (.cells (eI x).toArray 28) rfl; simp only [Act.put, List.setIfInBounds_toArray, List.set_cons_zero, List.set_cons_succ]
            refine Txt.anyw [0] rfl (by kernel_rfl) (by simp) (Txt.all1 ?_)
            refine Txt.opw rfl (Txt.wanted_none rfl) ?_
            refine St.wp_build0z slI rfl ?_; have HM : Hid _ := Mem.M.row0 HM.out (T := 28) Px.encI rfl; simp only [Act.put, List.setIfInBounds_toArray, List.set_cons_zero, List.set_cons_succ]
            refine Txt.anyw [2] rfl (by kernel_rfl) (by simp) (Txt.all1 ?_)
            refine Txt.opw rfl (Txt.wanted_none rfl) ?_
            first | (refine St.wp_appRz Px.encI slI (by decide) rfl rfl (HM.out.get 5 rfl) rfl (own_sl (HM.out.get 2 rfl)) (by simp; omega) ?_; intro v6 w6 h6 k6 g6; have HM : Hid _ := HM.out.appR 5 rfl h6 k6 g6; rw [List.nil_append] at HM; clear h6 k6 g6; simp only [Act.put, List.setIfInBounds_toArray, List.set_cons_zero, List.set_cons_succ]) | (refine St.wp_appRz Px.encI slI (by decide) rfl rfl (HM.out.get 6 rfl) rfl (own_sl (HM.out.get 2 rfl)) (by simp; omega) ?_; intro v6 w6 h6 k6 g6; have HM : Hid _ := HM.out.appR 6 rfl h6 k6 g6; rw [List.nil_append] at HM; clear h6 k6 g6; simp only [Act.put, List.setIfInBounds_toArray, List.set_cons_zero, List.set_cons_succ])
            refine Txt.anyw [5] rfl (by kernel_rfl) (by simp) (Txt.all1 ?_)
            refine Txt.opw rfl (Txt.wanted_none rfl) ?_
            first | (refine St.wp_app1z Px.encI slI (by decide) rfl rfl (HM.out.get 5 rfl) rfl x rfl (HM.out.get 6 rfl) (by have := Hq.out; omega) ?_; intro v7 w7 h7 k7 g7; have HM : Hid _ := HM.out.appR 5 rfl h7 k7 g7; clear h7 k7 g7; simp only [Act.put, List.setIfInBounds_toArray, List.set_cons_zero, List.set_cons_succ]) | (refine St.wp_app1z Px.encI slI (by decide) rfl rfl (HM.out.get 6 rfl) rfl x rfl (HM.out.get 5 rfl) (by have := Hq.out; omega) ?_; intro v7 w7 h7 k7 g7; have HM : Hid _ := HM.out.appR 6 rfl h7 k7 g7; clear h7 k7 g7; simp only [Act.put, List.setIfInBounds_toArray, List.set_cons_zero, List.set_cons_succ])
            refine wpAny_take (i := 6) (v := ?_) rfl (by kernel_rfl) (by kernel_rfl) (by kernel_rfl) (fun _ _ _ h => by cases h.1) (Or.inl ⟨by rfl, ?_⟩) ?_; rotate_left; (focus (intro w; go_simp; try with_reducible rfl)); simp only [Act.put, List.setIfInBounds_toArray, List.set_cons_zero, List.set_cons_succ]
            refine wpAny_done (by kernel_rfl) ?_ _
            refine ⟨rfl, ?_⟩
            first | exact ⟨_, _, _, _, rfl, HM.out.sub _ [0, 1, 5, 3, 4] (by decide) rfl⟩ | exact ⟨_, _, _, _, rfl, HM.out.sub _ [0, 1, 6, 3, 4] (by decide) rfl⟩
      rintro a' w' ⟨u0, u2, u4, vk2, rfl, hM⟩
      have HM : Hid _ := hM.out
      clear hM
      simp only [Act.put, List.setIfInBounds_toArray, List.set_cons_zero, List.set_cons_succ]
      go_wp2_with (first | ((with_reducible refine at_load 30 ?_); refine St.wl_load tyH (by rfl) rfl rfl (HM.out.range 3 rfl) (hv_len x) ?_; simp only [Act.put, List.setIfInBounds_toArray, List.set_cons_zero, List.set_cons_succ]) | (refine St.wl_build slH (by decide) rfl rfl (hv_len x) rfl ?_; have HM : Hid _ := HM.out.alloc (.cells (hv x).toArray 30) (by first | rfl | simp only [World.size_alloc]); simp only [Act.put, List.setIfInBounds_toArray, List.set_cons_zero, List.set_cons_succ]) | (refine St.wl_app1 slH (by decide) rfl rfl rfl (HM.out.get 1 rfl) rfl (hv_len x) (Px.encH.all x) (HM.out.get 5 rfl) (by have := Hq.out; omega) ?_; intro v3 w4 h1 k1 h3; have HM : Hid _ := HM.out.appR 1 rfl h1 k1 h3; clear h1 k1 h3; simp only [Act.put, List.setIfInBounds_toArray, List.set_cons_zero, List.set_cons_succ]))
      go_roundw
      case rel => exact ⟨k + 1, v2, _, _, R.take i ++ R.drop (i + 1), O ++ [x], rfl, rfl, by go_num, by have := Hq.out; simp; omega, HDn.out, HRn.out, fun y hy => by
        rcases List.mem_append.1 hy with hy | hy
        · exact HO.out y hy
        · obtain rfl := List.mem_singleton.1 hy
          exact HXm.out, HM.out.take 3⟩
      case measure => simp [intOf]; omega
end Dr
end Go.Proofs.YtpchpdnjgdpdgaaGreatDoor
