/-
  seq.Put.
-/
import Derived.Test.YtgpimeobkacniaaGSqE
set_option linter.unusedVariables false
set_option linter.unusedSimpArgs false
namespace Go.Proofs.Ytgpimeobkacniaa
open Go.RowKit
namespace Txt
section
variable {P : Program} {ops : Array Oper} {S : World → Prop} {o : Oper} {rest : List Oper} {ts : List Nat} {a : Act} {w : World} {Q : Act → World → Prop}
/-- A conversion that reads memory. -/
theorem tl_convQ (hw : Region.wanted o (yielded ops a.tmps) = true) {t1 t2 : TypeId} {x : Operand} (ho : o.op = .convert t1 t2 x) {u v : Value} (hx : a.eval x = u) (h : ∀ w2, S w2 → (convert t1 t2 u).run P w2 = .ok v w2) (k : wpTG P ops S Q rest ts (a.put o.dst v) w) : wpTG P ops S Q (o :: rest) (2 :: ts) a w :=
  tl_readS hw (fun w2 hs => by
    unfold execOp
    simp only [ho, hx, Sem.run_bind, h w2 hs, Result.andThen_ok, Sem.run_pure]) k
theorem tl_convR (hw : Region.wanted o (yielded ops a.tmps) = true) {t1 t2 : TypeId} {x : Operand} (ho : o.op = .convert t1 t2 x) {u v : Value} (hx : a.eval x = u) (h : ∀ w2, Le w w2 → (convert t1 t2 u).run P w2 = .ok v w2) (k : wpTG P ops S Q rest ts (a.put o.dst v) w) : wpTG P ops S Q (o :: rest) (1 :: ts) a w :=
  tl_read hw (fun w2 hs => by
    unfold execOp
    simp only [ho, hx, Sem.run_bind, h w2 hs, Result.andThen_ok, Sem.run_pure]) k
end
end Txt
namespace Sq
open Oct Ids Mp
open Mem (M It blk ids rows)
open OctRd (be_len)
def prI (y z : It) : It := ⟨fun k => y.foot k ∨ z.foot k, fun w => y.holds w ∧ z.holds w, fun w w' S h k n => ⟨y.stable w w' S h.1 k (fun j hj => n j (.inl hj)), z.stable w w' S h.2 k (fun j hj => n j (.inr hj))⟩⟩
/-- A call that leaves two things where one was. -/
theorem M.two {F : Nat → Prop} {w0 w w' : World} {l : List It} {x y z : It} (h : M F w0 w l) (i : Nat) (hi : l[i]? = some x) (m : M x.foot w w' [y, z]) : M F w0 w' (l.set i y ++ [z]) := by
  have h1 := h.upd i hi m.keep (fun _ h => h) (y := prI y z) ⟨m.get 0 rfl, m.get 1 rfl⟩ (fun k hk => by
    rcases hk with hk | hk
    · have := m.rng 0 _ rfl k hk
      exact this.1.elim (fun h => .inr ⟨h, this.2⟩) .inl
    · have := m.rng 1 _ rfl k hk
      exact this.1.elim (fun h => .inr ⟨h, this.2⟩) .inl)
  have hlt := (List.getElem?_eq_some_iff.1 hi).1
  have hpi : (l.set i (prI y z))[i]? = some (prI y z) := List.getElem?_set_self hlt
  have at_ : ∀ (j : Nat) (u : It), (l.set i y ++ [z])[j]? = some u → (j ≠ i ∧ (l.set i (prI y z))[j]? = some u) ∨ (j = i ∧ u = y) ∨ (j = l.length ∧ u = z) := by
    intro j u hj
    rcases Nat.lt_or_ge j l.length with hl | hg
    · rw [List.getElem?_append_left (by rw [List.length_set]; exact hl)] at hj
      by_cases e : j = i
      · subst e
        rw [List.getElem?_set_self hlt] at hj
        exact .inr (.inl ⟨rfl, (Option.some.inj hj).symm⟩)
      · rw [List.getElem?_set_ne (Ne.symm e)] at hj
        exact .inl ⟨e, by rw [List.getElem?_set_ne (Ne.symm e)]; exact hj⟩
    · rw [List.getElem?_append_right (by rw [List.length_set]; exact hg), List.length_set] at hj
      have h0 := (List.getElem?_eq_some_iff.1 hj).1
      simp at h0
      have e : j = l.length := by omega
      subst e
      simp at hj
      exact .inr (.inr ⟨rfl, hj.symm⟩)
  have hyz : ∀ k, y.foot k → ¬ z.foot k := fun k hy hz => m.dis 0 1 _ _ rfl rfl (by decide) k hy hz
  refine ⟨fun j u hj => ?_, fun j q u v hj hq hjq k hu hv => ?_, fun j u hj k hk => ?_, h1.keep⟩
  · rcases at_ j u hj with ⟨_, h2⟩ | ⟨_, rfl⟩ | ⟨_, rfl⟩
    · exact h1.all j u h2
    · exact m.get 0 rfl
    · exact m.get 1 rfl
  · rcases at_ j u hj with ⟨n1, h2⟩ | ⟨e1, rfl⟩ | ⟨e1, rfl⟩ <;> rcases at_ q v hq with ⟨n2, h3⟩ | ⟨e2, rfl⟩ | ⟨e2, rfl⟩
    · exact h1.dis j q u v h2 h3 hjq k hu hv
    · exact h1.dis j i u _ h2 hpi n1 k hu (.inl hv)
    · exact h1.dis j i u _ h2 hpi n1 k hu (.inr hv)
    · exact h1.dis q i v _ h3 hpi n2 k hv (.inl hu)
    · omega
    · exact hyz k hu hv
    · exact h1.dis q i v _ h3 hpi n2 k hv (.inr hu)
    · exact hyz k hv hu
    · omega
  · rcases at_ j u hj with ⟨_, h2⟩ | ⟨_, rfl⟩ | ⟨_, rfl⟩
    · exact h1.rng j u h2 k hk
    · exact h1.rng i _ hpi k (.inl hk)
    · exact h1.rng i _ hpi k (.inr hk)
theorem withL_len (l : List Wd) (x : Wd) : (IdL.withL l x).length ≤ l.length + 1 := by
  unfold IdL.withL
  split
  · omega
  · rw [List.length_append, List.length_cons, ← Nat.add_assoc, ← List.length_append, List.takeWhile_append_dropWhile]
    exact Nat.le_refl _
theorem stG_len (G : List Wd) (x : Ak) : (stG G x).length ≤ G.length + 1 := by
  unfold stG
  split
  · omega
  · exact withL_len G _
theorem alk_step {X : List Dn} {N : Nds} (h : Alk X N) (x : Ak) : Alk (stX X x) (stN N x) := by
  unfold stX stN
  by_cases hc : isI x ∧ chk x.d.u x.d.x = 0
  · rw [if_pos hc]
    by_cases hn : x.d.u ∉ N.map (·.1)
    · rw [if_pos ⟨hc.1, hc.2, hn⟩]
      exact h.put x.d hn
    · rw [if_neg (fun h' => hn h'.2.2), insD_in ((h.keys _).2 (Classical.byContradiction hn))]
      exact h
  · rw [if_neg hc, if_neg (fun h' => hc ⟨h'.1, h'.2.1⟩)]
    exact h
theorem two {F : Nat → Prop} {w0 w w' : World} {l : List It} {x y z : It} (h : M F w0 w l) (i : Nat) (hi : l[i]? = some x) (m : M x.foot w w' [y, z]) : M F w0 w' (l.set i y ++ [z]) := M.two h i hi m
theorem nrg_h {w : World} {b : Nat} {x : Nd} (h : w.rangeAt b 0 (ne x)) : w.cell? ⟨b, 0, none⟩ = some (.int .i64 x.h) := h 0 _ rfl
theorem nrg_v {w : World} {b : Nat} {x : Nd} (h : w.rangeAt b 0 (ne x)) : w.cell? ⟨b, 33, none⟩ = some (.string x.v) := by
  have e := ne_val x
  rw [List.getElem?_toArray] at e
  have := h 33 _ e
  rwa [Nat.zero_add] at this
theorem nrg_r {w : World} {b : Nat} {x : Nd} (h : w.rangeAt b 0 (ne x)) : w.rangeAt b 1 (x.r.map bv) := fun j v hj => by
  have e := h (1 + j) v (by
    unfold ne
    rw [Nat.add_comm, List.getElem?_cons_succ, List.getElem?_append_left (List.getElem?_eq_some_iff.1 hj).1]
    exact hj)
  rwa [Nat.zero_add] at e
theorem nodes_len : ∀ (X : List Dn), (∀ d ∈ X, d.x.v.size ≤ 16) → (X.flatMap nodeB).length ≤ 85 * X.length
  | [], _ => Nat.zero_le _
  | d :: X, h => by
    have h1 := nodes_len X (fun e he => h e (List.mem_cons_of_mem _ he))
    have h2 := h d List.mem_cons_self
    have h3 : (nodeB d).length = 69 + d.x.v.size := by
      unfold nodeB
      simp only [List.length_append, be_len, d.hu, d.x.hr]
      have : d.x.v.data.toList.length = d.x.v.size := rfl
      omega
    rw [List.flatMap_cons, List.length_append, List.length_cons, h3]
    omega
/-- What Put comes to. -/
structure SPutPost (w : World) (b bn bb bg : Nat) (N : Nds) (B : Bhs) (G : List Wd) (s : ByteArray) (e : Ending) (w' : World) : Prop where
  ret : e = .returned (.string s)
  sq : STo w w' b bn bb bg B N B G
set_option maxRecDepth 100000 in
set_option maxHeartbeats 16000000 in
theorem sput_any (w : World) (b bn bb bg : Nat) (N : Nds) (B : Bhs) (G : List Wd) (h : SqAt w b bn bb bg N B G) (hi : Inv N B) (hN : N.length ≤ 1000) (hG : G.length ≤ 1000) (X : List Dn) (G' : List Wd) (ha : Alk X N) (hg : Gon G G') :
    Calls Try.prog 43 #[.pointer (some ⟨b, 0, none⟩)] w (SPutPost w b bn bb bg N B G ⟨(putB X G').toArray⟩) := by
  have HM : Hid (M (foot b bn bb bg B) w w [sqI b bn bb bg N B G]) := all_st h
  obtain ⟨q, hq⟩ : ∃ q, X.length = q := ⟨_, rfl⟩
  obtain ⟨g, hgl⟩ : ∃ g, G'.length = g := ⟨_, rfl⟩
  have Hq : Hid (X.length = q) := hq
  have Hgl : Hid (G'.length = g) := hgl
  have hq1 : q ≤ 1000 := by rw [← hq, ha.len]; exact hN
  have hg1 : g ≤ 1000 := by rw [← hgl, hg.len]; exact hG
  have HIds : Hid (∀ w1, SqAt w1 b bn bb bg N B G → Calls Try.prog 75 #[.pointer (some ⟨b, 0, none⟩)] w1 (KeyPost w1 b bn bb bg N B G (X.map (·.u)))) := fun w1 h1 => sids_any w1 b bn bb bg N B G h1 hN _ (fun K hK => ha.set hK)
  have HGo : Hid (∀ w1, SqAt w1 b bn bb bg N B G → Calls Try.prog 76 #[.pointer (some ⟨b, 0, none⟩)] w1 (KeyPost w1 b bn bb bg N B G G')) := fun w1 h1 => sgone_any w1 b bn bb bg N B G h1 hG _ (fun K hK => hg.set hK)
  have HLk : Hid (∀ d ∈ X, lookN N d.u = ne d.x) := fun d hd => by
    unfold lookN
    rw [fget_of hi.nk (ha.mem hd)]
    rfl
  have HOk : Hid (∀ d ∈ X, d.x.v.size ≤ 16 ∧ 1 ≤ d.x.h ∧ d.x.h ≤ 1073741824) := fun d hd => by
    have := chk_ok (hi.ok _ (ha.mem hd)).2
    exact ⟨this.1, this.2.1, this.2.2.1⟩
  obtain ⟨l, hl⟩ : ∃ l, X.map (·.u) = l := ⟨_, rfl⟩
  have Hl : Hid (X.map (·.u) = l) := hl
  have HLl : Hid (l.length = q) := by show _ = _; rw [← hl, List.length_map, hq]
  rw [hl] at HIds
  clear h hi hN hG ha hg hq hgl hl
  go_enter Try.func43, Try.ntmps43
  go_wp2_with (first | (go_at_call 52; refine (snone _ b bn bb bg N B G (HM.out.get 0 rfl)).mono ?_; rintro e w1 ⟨rfl, h1⟩; replace h1 := h1.symm; subst h1) | (go_at_call 75; refine (HIds.out _ (HM.out.get 0 rfl)).mono ?_; rintro e w2 ⟨v2, rfl, m2⟩; have HM : Hid (M (foot b bn bb bg B) w w2 [sqI b bn bb bg N B G, ids v2 l]) := two HM.out 0 rfl m2; clear m2; obtain ⟨la, lc, e2, hat2⟩ : ∃ a c, v2 = .slice a q c ∧ At w2 a q l := (by obtain ⟨a, c, e, h1, _⟩ := (show Ids.Own w2 v2 l from HM.out.get 1 rfl).at; rw [HLl.out] at e h1; exact ⟨a, c, e, h1⟩); subst e2; clear hat2) | (go_at_call 76; refine (HGo.out _ (HM.out.get 0 rfl)).mono ?_; rintro e w3 ⟨v3, rfl, m3⟩; have HM : Hid (M (foot b bn bb bg B) w w3 [sqI b bn bb bg N B G, ids (.slice la q lc) l, ids v3 G']) := two HM.out 0 rfl m3; clear m3; obtain ⟨ga, gc, e3, hat3⟩ : ∃ a c, v3 = .slice a g c ∧ At w3 a g G' := (by obtain ⟨a, c, e, h1, _⟩ := (show Ids.Own w3 v3 G' from HM.out.get 2 rfl).at; rw [Hgl.out] at e h1; exact ⟨a, c, e, h1⟩); subst e3; clear hat3; obtain ⟨bw, hbw⟩ : ∃ b, w3.heap.size = b := ⟨_, rfl⟩; have Hbw : Hid (w3.heap.size = bw) := hbw; clear hbw) | (go_at_call 68; refine (M.new HM.out Hbw.out).mono ?_; rintro e w4 ⟨rfl, h4⟩; have HM : Hid _ := h4; clear h4) | (go_at_call 69; refine (M.wnum HM.out 3 rfl q 4 (by omega) (by omega) (by omega) (by simp)).mono ?_; rintro e w5 ⟨rfl, sv5, h5⟩; have HM : Hid _ := h5; clear h5))
  go_loopw [25] (fun s25 wr => ∃ (k : Nat) (sv : Value), k ≤ q ∧ s25 = .int .i64 k ∧ M (foot b bn bb bg B) w wr [sqI b bn bb bg N B G, ids (.slice la q lc) l, ids (.slice ga g gc) G', Mem.wr bw (be 4 q ++ (X.take k).flatMap nodeB) sv]) (fun s25 _ => q - (intOf s25).toNat)
  case atStart => exact ⟨0, sv5, Nat.zero_le _, by go_num, by have := HM.out; simpa using this⟩
  case round =>
    clear HM
    obtain ⟨k, sv, hk, rfl, hM⟩ := hrel
    have HM : Hid (M (foot b bn bb bg B) w wr [sqI b bn bb bg N B G, ids (.slice la q lc) l, ids (.slice ga g gc) G', Mem.wr bw (be 4 q ++ (X.take k).flatMap nodeB) sv]) := hM
    clear hM
    by_cases hlt : k < q
    · obtain ⟨d, hd⟩ : ∃ d, X[k]? = some d := ⟨_, List.getElem?_eq_getElem (by rw [Hq.out]; exact hlt)⟩
      have hu : l[k]? = some d.u := by rw [← Hl.out, List.getElem?_map, hd]; rfl
      obtain ⟨g0, o0, e0, _, hr0⟩ := (own_idat (show Ids.Own wr (.slice la q lc) l from HM.out.get 1 rfl)).lay.resolve_left (by omega)
      subst e0
      have R1 : Hid (wr.rangeAt g0 (o0 + k * 32) (d.u.map bv)) := hr0 k d.u hu
      have HU : Hid (d.u.length = 32) := d.hu
      have HUs : Hid ((d.u.map bv).toArray.size = 32) := by show _ = _; rw [List.size_toArray, List.length_map]; exact d.hu
      have HNs : Hid ((ne d.x).toArray.size = 34) := by show _ = _; rw [List.size_toArray]; exact ne_len d.x
      have HN1 : Hid ((ne d.x).toArray.all (·.oneCell') = true) := encN.all d.x
      have HLd : Hid (lookN N d.u = ne d.x) := HLk.out d (List.mem_of_getElem? hd)
      have HE : Hid ((X.take (k + 1)).flatMap nodeB = (X.take k).flatMap nodeB ++ nodeB d) := putB_take hd
      obtain ⟨hv16, hh1, hh2⟩ := HOk.out d (List.mem_of_getElem? hd)
      have HB : Hid ((be 4 q ++ (X.take k).flatMap nodeB).length ≤ 100000) := by
        show _ ≤ _
        have h1 := nodes_len (X.take k) (fun e he => (HOk.out e (List.mem_of_mem_take he)).1)
        have h2 := List.length_take_le k X
        rw [List.length_append, be_len]
        omega
      have HUl : Hid ((⟨d.u.toArray⟩ : ByteArray).size = 32) := by show _ = _; rw [Byt.arr_size]; exact d.hu
      have HRl : Hid ((⟨d.x.r.toArray⟩ : ByteArray).size = 32) := by show _ = _; rw [Byt.arr_size]; exact d.x.hr
      have HRr : Hid (d.x.r.length = 32) := d.x.hr
      clear hr0 hu hd
      have HVl : Hid (d.x.v.data.toList.length = d.x.v.size) := rfl
      obtain ⟨bs, hbs⟩ : ∃ bs, be 4 q ++ (X.take k).flatMap nodeB = bs := ⟨_, rfl⟩
      have HBs : Hid (be 4 q ++ (X.take k).flatMap nodeB = bs) := hbs
      rw [hbs] at HM HB
      clear hbs
      go_wp2_with (first | ((with_reducible refine at_load 35 ?_); refine Ids.wl_load rfl rfl rfl HU.out R1.out ?_; simp only [Act.put, List.setIfInBounds_toArray, List.set_cons_zero, List.set_cons_succ]) | ((with_reducible refine at_alloc 35 ?_); refine St.wl_alloc tyI rfl rfl (by (try simp only [World.size_alloc]); rfl) ?_; simp only [Act.put, List.setIfInBounds_toArray, List.set_cons_zero, List.set_cons_succ]) | ((with_reducible refine at_store 35 ?_); refine St.wl_storeN (W := wr) tyI rfl rfl rfl rfl rfl (by (try simp only [World.size_alloc])) (show _ = Value.agg (d.u.map bv).toArray from rfl) HUs.out rfl (one_bv _) ?_; have HM : Hid _ := HM.out.alloc (.cells (d.u.map bv).toArray 35) rfl))
      have HM : Hid _ := HM.out.drew
      have c2 := (show SqAt _ b bn bb bg N B G from HM.out.get 0 rfl).cells.1
      have HIs : Hid _ := (show SqAt _ b bn bb bg N B G from HM.out.get 0 rfl).all.get 1 rfl
      refine Txt.wp_region_text (fun _ => True) [0, 0, 0, 1, 1, 1, 3, 4] (by kernel_rfl) (by kernel_rfl) trivial ?_
      (repeat (first | (refine Txt.tl_pure (v := ?_) (by rfl) ?_ ?_; rotate_left; (focus (intro _; go_simp; try with_reducible rfl)); simp only [Act.put, List.setIfInBounds_toArray, List.set_cons_zero, List.set_cons_succ]) | (refine Txt.tl_load (v := ?_) (by rfl) (by rfl) (by rfl) (by kernel_rfl) ?_ ?_; rotate_left; (focus assumption); simp only [Act.put, List.setIfInBounds_toArray, List.set_cons_zero, List.set_cons_succ]) | (refine Txt.tl_rowN (n := 32) (ty := 35) (by rfl) (by rfl) (by rfl) (HM.out.range 4 rfl) (by kernel_rfl) (by rw [List.length_map]; exact HU.out) ?_; simp only [Act.put, List.setIfInBounds_toArray, List.set_cons_zero, List.set_cons_succ]) | (refine Txt.tl_skip (by rfl) trivial ?_; simp only [Act.put, List.setIfInBounds_toArray, List.set_cons_zero, List.set_cons_succ])))
      refine Mp.tl_look idKey Try.underlying93 (by rfl) rfl rfl HIs.out zeroN HU.out rfl (look_nd N d.u) ?_
      simp only [Act.put, List.setIfInBounds_toArray, List.set_cons_zero, List.set_cons_succ]
      rw [HLd.out]
      clear c2 HIs
      refine Txt.tl_alloc (by rfl) ?_
      refine St.wp_alloc tyN rfl ?_
      refine ⟨⟨Txt.Le.alloc _ _, trivial⟩, ?_⟩
      simp only [Act.put, List.setIfInBounds_toArray, List.set_cons_zero, List.set_cons_succ]
      refine Txt.tl_loud (by rfl) ?_
      refine St.wp_storeN tyN rfl rfl rfl rfl rfl (show _ = Value.agg (ne d.x).toArray from rfl) HNs.out rfl HN1.out ?_
      have HM : Hid _ := HM.out.alloc (.cells (ne d.x).toArray 124) rfl
      refine ⟨trivial, ?_⟩
      refine Txt.tl_nil ?_
      obtain ⟨nb, hnb⟩ : ∃ n, ((wr.alloc (.cells (d.u.map bv).toArray 35)).drew).heap.size = n := ⟨_, rfl⟩
      rw [hnb] at HM ⊢
      clear hnb
      obtain ⟨ub, hub⟩ : ∃ n, wr.heap.size = n := ⟨_, rfl⟩
      rw [hub] at HM ⊢
      clear hub
      go_wp2
      refine Txt.wp_region_text (fun w' => w'.rangeAt ub 0 (d.u.map bv) ∧ w'.rangeAt nb 0 (ne d.x)) [0, 0, 1, 4, 0, 2, 4, 0, 0, 2, 4, 0, 2, 0, 4, 0, 2, 4] (by kernel_rfl) (by kernel_rfl) ⟨HM.out.drew.range 4 rfl, HM.out.drew.range 5 rfl⟩ ?_
      have HM : Hid _ := HM.out.drew
      (repeat (first | (refine Txt.tl_pure (v := ?_) (by rfl) ?_ ?_; rotate_left; (focus (intro _; go_simp; try with_reducible rfl)); simp only [Act.put, List.setIfInBounds_toArray, List.set_cons_zero, List.set_cons_succ]) | (refine Txt.tl_convR (by rfl) (by rfl) (by rfl) (v := .string ⟨d.u.toArray⟩) (fun w2 h => conv_id w2 ub 0 d.u d.hu _ (h.range (HM.out.range 4 rfl))) ?_; simp only [Act.put, List.setIfInBounds_toArray, List.set_cons_zero, List.set_cons_succ]) | (refine Txt.tl_convQ (by rfl) (by rfl) (by rfl) (v := .string ⟨d.u.toArray⟩) (fun w2 h => conv_id w2 ub 0 d.u d.hu _ h.1) ?_; simp only [Act.put, List.setIfInBounds_toArray, List.set_cons_zero, List.set_cons_succ]) | (refine Txt.tl_convQ (by rfl) (by rfl) (by rfl) (v := .string ⟨d.x.r.toArray⟩) (fun w2 h => conv_id w2 nb 1 d.x.r d.x.hr _ (nrg_r h.2)) ?_; simp only [Act.put, List.setIfInBounds_toArray, List.set_cons_zero, List.set_cons_succ]) | (refine Txt.tl_loadS (v := .int .i64 d.x.h) (ty := 3) (by rfl) (by rfl) (by rfl) (by kernel_rfl) (fun _ h => nrg_h h.2) ?_; simp only [Act.put, List.setIfInBounds_toArray, List.set_cons_zero, List.set_cons_succ]) | (refine Txt.tl_loadS (v := .string d.x.v) (ty := 9) (by rfl) (by rfl) (by rfl) (by kernel_rfl) (fun _ h => nrg_v h.2) ?_; simp only [Act.put, List.setIfInBounds_toArray, List.set_cons_zero, List.set_cons_succ])))
      refine Txt.tl_call Try.func70 (by kernel_rfl) (by kernel_rfl) (by rfl) (by rfl) (by rfl) (M.wraw HM.out 3 rfl ⟨d.u.toArray⟩ (by (have q1 := HB.out; have q2 := HVl.out; (try simp only [List.length_append, be_len, Byt.arr_size, List.toList_toArray, d.hu, d.x.hr]); omega))) ?_
      rintro e w6 ⟨rfl, sv6, h1⟩
      have HM : Hid _ := h1
      clear h1
      refine ⟨_, rfl, ⟨HM.out.range 4 rfl, HM.out.range 5 rfl⟩, ?_⟩
      simp only [Act.put, List.setIfInBounds_toArray, List.set_cons_zero, List.set_cons_succ]
      (repeat (first | (refine Txt.tl_pure (v := ?_) (by rfl) ?_ ?_; rotate_left; (focus (intro _; go_simp; try with_reducible rfl)); simp only [Act.put, List.setIfInBounds_toArray, List.set_cons_zero, List.set_cons_succ]) | (refine Txt.tl_convR (by rfl) (by rfl) (by rfl) (v := .string ⟨d.u.toArray⟩) (fun w2 h => conv_id w2 ub 0 d.u d.hu _ (h.range (HM.out.range 4 rfl))) ?_; simp only [Act.put, List.setIfInBounds_toArray, List.set_cons_zero, List.set_cons_succ]) | (refine Txt.tl_convQ (by rfl) (by rfl) (by rfl) (v := .string ⟨d.u.toArray⟩) (fun w2 h => conv_id w2 ub 0 d.u d.hu _ h.1) ?_; simp only [Act.put, List.setIfInBounds_toArray, List.set_cons_zero, List.set_cons_succ]) | (refine Txt.tl_convQ (by rfl) (by rfl) (by rfl) (v := .string ⟨d.x.r.toArray⟩) (fun w2 h => conv_id w2 nb 1 d.x.r d.x.hr _ (nrg_r h.2)) ?_; simp only [Act.put, List.setIfInBounds_toArray, List.set_cons_zero, List.set_cons_succ]) | (refine Txt.tl_loadS (v := .int .i64 d.x.h) (ty := 3) (by rfl) (by rfl) (by rfl) (by kernel_rfl) (fun _ h => nrg_h h.2) ?_; simp only [Act.put, List.setIfInBounds_toArray, List.set_cons_zero, List.set_cons_succ]) | (refine Txt.tl_loadS (v := .string d.x.v) (ty := 9) (by rfl) (by rfl) (by rfl) (by kernel_rfl) (fun _ h => nrg_v h.2) ?_; simp only [Act.put, List.setIfInBounds_toArray, List.set_cons_zero, List.set_cons_succ])))
      refine Txt.tl_call Try.func69 (by kernel_rfl) (by kernel_rfl) (by rfl) (by rfl) (by rfl) (M.wnum HM.out 3 rfl d.x.h 4 (by omega) (by omega) (by omega) (by (have q1 := HB.out; have q2 := HVl.out; (try simp only [List.length_append, be_len, Byt.arr_size, List.toList_toArray, d.hu, d.x.hr]); omega))) ?_
      rintro e w6 ⟨rfl, sv6, h1⟩
      have HM : Hid _ := h1
      clear h1
      refine ⟨_, rfl, ⟨HM.out.range 4 rfl, HM.out.range 5 rfl⟩, ?_⟩
      simp only [Act.put, List.setIfInBounds_toArray, List.set_cons_zero, List.set_cons_succ]
      (repeat (first | (refine Txt.tl_pure (v := ?_) (by rfl) ?_ ?_; rotate_left; (focus (intro _; go_simp; try with_reducible rfl)); simp only [Act.put, List.setIfInBounds_toArray, List.set_cons_zero, List.set_cons_succ]) | (refine Txt.tl_convR (by rfl) (by rfl) (by rfl) (v := .string ⟨d.u.toArray⟩) (fun w2 h => conv_id w2 ub 0 d.u d.hu _ (h.range (HM.out.range 4 rfl))) ?_; simp only [Act.put, List.setIfInBounds_toArray, List.set_cons_zero, List.set_cons_succ]) | (refine Txt.tl_convQ (by rfl) (by rfl) (by rfl) (v := .string ⟨d.u.toArray⟩) (fun w2 h => conv_id w2 ub 0 d.u d.hu _ h.1) ?_; simp only [Act.put, List.setIfInBounds_toArray, List.set_cons_zero, List.set_cons_succ]) | (refine Txt.tl_convQ (by rfl) (by rfl) (by rfl) (v := .string ⟨d.x.r.toArray⟩) (fun w2 h => conv_id w2 nb 1 d.x.r d.x.hr _ (nrg_r h.2)) ?_; simp only [Act.put, List.setIfInBounds_toArray, List.set_cons_zero, List.set_cons_succ]) | (refine Txt.tl_loadS (v := .int .i64 d.x.h) (ty := 3) (by rfl) (by rfl) (by rfl) (by kernel_rfl) (fun _ h => nrg_h h.2) ?_; simp only [Act.put, List.setIfInBounds_toArray, List.set_cons_zero, List.set_cons_succ]) | (refine Txt.tl_loadS (v := .string d.x.v) (ty := 9) (by rfl) (by rfl) (by rfl) (by kernel_rfl) (fun _ h => nrg_v h.2) ?_; simp only [Act.put, List.setIfInBounds_toArray, List.set_cons_zero, List.set_cons_succ])))
      refine Txt.tl_call Try.func70 (by kernel_rfl) (by kernel_rfl) (by rfl) (by rfl) (by rfl) (M.wraw HM.out 3 rfl ⟨d.x.r.toArray⟩ (by (have q1 := HB.out; have q2 := HVl.out; (try simp only [List.length_append, be_len, Byt.arr_size, List.toList_toArray, d.hu, d.x.hr]); omega))) ?_
      rintro e w6 ⟨rfl, sv6, h1⟩
      have HM : Hid _ := h1
      clear h1
      refine ⟨_, rfl, ⟨HM.out.range 4 rfl, HM.out.range 5 rfl⟩, ?_⟩
      simp only [Act.put, List.setIfInBounds_toArray, List.set_cons_zero, List.set_cons_succ]
      (repeat (first | (refine Txt.tl_pure (v := ?_) (by rfl) ?_ ?_; rotate_left; (focus (intro _; go_simp; try with_reducible rfl)); simp only [Act.put, List.setIfInBounds_toArray, List.set_cons_zero, List.set_cons_succ]) | (refine Txt.tl_convR (by rfl) (by rfl) (by rfl) (v := .string ⟨d.u.toArray⟩) (fun w2 h => conv_id w2 ub 0 d.u d.hu _ (h.range (HM.out.range 4 rfl))) ?_; simp only [Act.put, List.setIfInBounds_toArray, List.set_cons_zero, List.set_cons_succ]) | (refine Txt.tl_convQ (by rfl) (by rfl) (by rfl) (v := .string ⟨d.u.toArray⟩) (fun w2 h => conv_id w2 ub 0 d.u d.hu _ h.1) ?_; simp only [Act.put, List.setIfInBounds_toArray, List.set_cons_zero, List.set_cons_succ]) | (refine Txt.tl_convQ (by rfl) (by rfl) (by rfl) (v := .string ⟨d.x.r.toArray⟩) (fun w2 h => conv_id w2 nb 1 d.x.r d.x.hr _ (nrg_r h.2)) ?_; simp only [Act.put, List.setIfInBounds_toArray, List.set_cons_zero, List.set_cons_succ]) | (refine Txt.tl_loadS (v := .int .i64 d.x.h) (ty := 3) (by rfl) (by rfl) (by rfl) (by kernel_rfl) (fun _ h => nrg_h h.2) ?_; simp only [Act.put, List.setIfInBounds_toArray, List.set_cons_zero, List.set_cons_succ]) | (refine Txt.tl_loadS (v := .string d.x.v) (ty := 9) (by rfl) (by rfl) (by rfl) (by kernel_rfl) (fun _ h => nrg_v h.2) ?_; simp only [Act.put, List.setIfInBounds_toArray, List.set_cons_zero, List.set_cons_succ])))
      refine Txt.tl_call Try.func69 (by kernel_rfl) (by kernel_rfl) (by rfl) (by rfl) (by rfl) (M.wnum HM.out 3 rfl d.x.v.size 1 (by omega) (by omega) (by omega) (by (have q1 := HB.out; have q2 := HVl.out; (try simp only [List.length_append, be_len, Byt.arr_size, List.toList_toArray, d.hu, d.x.hr]); omega))) ?_
      rintro e w6 ⟨rfl, sv6, h1⟩
      have HM : Hid _ := h1
      clear h1
      refine ⟨_, rfl, ⟨HM.out.range 4 rfl, HM.out.range 5 rfl⟩, ?_⟩
      simp only [Act.put, List.setIfInBounds_toArray, List.set_cons_zero, List.set_cons_succ]
      (repeat (first | (refine Txt.tl_pure (v := ?_) (by rfl) ?_ ?_; rotate_left; (focus (intro _; go_simp; try with_reducible rfl)); simp only [Act.put, List.setIfInBounds_toArray, List.set_cons_zero, List.set_cons_succ]) | (refine Txt.tl_convR (by rfl) (by rfl) (by rfl) (v := .string ⟨d.u.toArray⟩) (fun w2 h => conv_id w2 ub 0 d.u d.hu _ (h.range (HM.out.range 4 rfl))) ?_; simp only [Act.put, List.setIfInBounds_toArray, List.set_cons_zero, List.set_cons_succ]) | (refine Txt.tl_convQ (by rfl) (by rfl) (by rfl) (v := .string ⟨d.u.toArray⟩) (fun w2 h => conv_id w2 ub 0 d.u d.hu _ h.1) ?_; simp only [Act.put, List.setIfInBounds_toArray, List.set_cons_zero, List.set_cons_succ]) | (refine Txt.tl_convQ (by rfl) (by rfl) (by rfl) (v := .string ⟨d.x.r.toArray⟩) (fun w2 h => conv_id w2 nb 1 d.x.r d.x.hr _ (nrg_r h.2)) ?_; simp only [Act.put, List.setIfInBounds_toArray, List.set_cons_zero, List.set_cons_succ]) | (refine Txt.tl_loadS (v := .int .i64 d.x.h) (ty := 3) (by rfl) (by rfl) (by rfl) (by kernel_rfl) (fun _ h => nrg_h h.2) ?_; simp only [Act.put, List.setIfInBounds_toArray, List.set_cons_zero, List.set_cons_succ]) | (refine Txt.tl_loadS (v := .string d.x.v) (ty := 9) (by rfl) (by rfl) (by rfl) (by kernel_rfl) (fun _ h => nrg_v h.2) ?_; simp only [Act.put, List.setIfInBounds_toArray, List.set_cons_zero, List.set_cons_succ])))
      refine Txt.tl_call Try.func70 (by kernel_rfl) (by kernel_rfl) (by rfl) (by rfl) (by rfl) (M.wraw HM.out 3 rfl d.x.v (by (have q1 := HB.out; have q2 := HVl.out; (try simp only [List.length_append, be_len, Byt.arr_size, List.toList_toArray, d.hu, d.x.hr]); omega))) ?_
      rintro e w6 ⟨rfl, sv6, h1⟩
      have HM : Hid _ := h1
      clear h1
      refine ⟨_, rfl, ⟨HM.out.range 4 rfl, HM.out.range 5 rfl⟩, ?_⟩
      simp only [Act.put, List.setIfInBounds_toArray, List.set_cons_zero, List.set_cons_succ]
      (repeat (first | (refine Txt.tl_pure (v := ?_) (by rfl) ?_ ?_; rotate_left; (focus (intro _; go_simp; try with_reducible rfl)); simp only [Act.put, List.setIfInBounds_toArray, List.set_cons_zero, List.set_cons_succ]) | (refine Txt.tl_convR (by rfl) (by rfl) (by rfl) (v := .string ⟨d.u.toArray⟩) (fun w2 h => conv_id w2 ub 0 d.u d.hu _ (h.range (HM.out.range 4 rfl))) ?_; simp only [Act.put, List.setIfInBounds_toArray, List.set_cons_zero, List.set_cons_succ]) | (refine Txt.tl_convQ (by rfl) (by rfl) (by rfl) (v := .string ⟨d.u.toArray⟩) (fun w2 h => conv_id w2 ub 0 d.u d.hu _ h.1) ?_; simp only [Act.put, List.setIfInBounds_toArray, List.set_cons_zero, List.set_cons_succ]) | (refine Txt.tl_convQ (by rfl) (by rfl) (by rfl) (v := .string ⟨d.x.r.toArray⟩) (fun w2 h => conv_id w2 nb 1 d.x.r d.x.hr _ (nrg_r h.2)) ?_; simp only [Act.put, List.setIfInBounds_toArray, List.set_cons_zero, List.set_cons_succ]) | (refine Txt.tl_loadS (v := .int .i64 d.x.h) (ty := 3) (by rfl) (by rfl) (by rfl) (by kernel_rfl) (fun _ h => nrg_h h.2) ?_; simp only [Act.put, List.setIfInBounds_toArray, List.set_cons_zero, List.set_cons_succ]) | (refine Txt.tl_loadS (v := .string d.x.v) (ty := 9) (by rfl) (by rfl) (by rfl) (by kernel_rfl) (fun _ h => nrg_v h.2) ?_; simp only [Act.put, List.setIfInBounds_toArray, List.set_cons_zero, List.set_cons_succ])))
      refine Txt.tl_nil ?_
      go_wp2
      go_roundw
      case rel =>
        refine ⟨k + 1, sv6, by omega, by go_num, ?_⟩
        rw [HE.out, ← List.append_assoc, HBs.out]
        have := HM.out.take 4
        simpa [nodeB, List.append_assoc] using this
      case measure => simp [intOf]; omega
    · obtain rfl : q = k := by omega
      have HM : Hid (M (foot b bn bb bg B) w wr [sqI b bn bb bg N B G, ids (.slice la q lc) l, ids (.slice ga g gc) G', Mem.wr bw (be 4 q ++ X.flatMap nodeB) sv]) := by have := HM.out; rwa [List.take_of_length_le (by rw [Hq.out]; exact Nat.le_refl _)] at this
      have HB : Hid ((be 4 q ++ X.flatMap nodeB).length ≤ 100000) := by
        show _ ≤ _
        have h1 := nodes_len X (fun e he => (HOk.out e he).1)
        have h2 := Hq.out
        rw [List.length_append, be_len]
        omega
      obtain ⟨cs, hcs⟩ : ∃ cs, be 4 q ++ X.flatMap nodeB = cs := ⟨_, rfl⟩
      have HCs : Hid (be 4 q ++ X.flatMap nodeB = cs) := hcs
      rw [hcs] at HM HB
      clear hcs
      go_wp2_with (first | (go_at_call 69; refine (M.wnum HM.out 3 rfl g 4 (by omega) (by omega) (by omega) (by have := HB.out; omega)).mono ?_; rintro e w6 ⟨rfl, sv6, h6⟩; have HM : Hid _ := h6; clear h6))
      go_loopw [60] (fun s60 wr => ∃ (k : Nat) (sv : Value), k ≤ g ∧ s60 = .int .i64 k ∧ M (foot b bn bb bg B) w wr [sqI b bn bb bg N B G, ids (.slice la q lc) l, ids (.slice ga g gc) G', Mem.wr bw (cs ++ be 4 g ++ (G'.take k).flatten) sv]) (fun s60 _ => g - (intOf s60).toNat)
      case atStart => exact ⟨0, sv6, Nat.zero_le _, by go_num, by have := HM.out; simpa using this⟩
      case round =>
        clear HM
        obtain ⟨k, sv, hk, rfl, hM⟩ := hrel
        have HM : Hid (M (foot b bn bb bg B) w wr [sqI b bn bb bg N B G, ids (.slice la q lc) l, ids (.slice ga g gc) G', Mem.wr bw (cs ++ be 4 g ++ (G'.take k).flatten) sv]) := hM
        clear hM
        by_cases hlt : k < g
        · obtain ⟨u, hu⟩ : ∃ u, G'[k]? = some u := ⟨_, List.getElem?_eq_getElem (by rw [Hgl.out]; exact hlt)⟩
          have hat : At wr ga g G' := own_idat (c := gc) (HM.out.get 2 rfl)
          obtain ⟨g0, o0, e0, _, hr0⟩ := hat.lay.resolve_left (by omega)
          subst e0
          have hul := hat.size u (List.mem_of_getElem? hu)
          have R1 : Hid (wr.rangeAt g0 (o0 + k * 32) (u.map bv)) := hr0 k u hu
          have HU : Hid (u.length = 32) := hul
          have HUs : Hid ((u.map bv).toArray.size = 32) := by show _ = _; rw [List.size_toArray, List.length_map]; exact hul
          have hcv := conv_id (wr.alloc (.cells (u.map bv).toArray 35)) wr.heap.size 0 u hul 32 (range_new wr _ _)
          have HE : Hid ((G'.take (k + 1)).flatten = (G'.take k).flatten ++ u) := flat_takeW hu
          have HLn : Hid ((cs ++ be 4 g ++ (G'.take k).flatten).length + (⟨u.toArray⟩ : ByteArray).size ≤ 1000000000) := by
            show _ ≤ _
            have h1 := HB.out
            have h2 := Ids.flat_take G' k hat.size (by rw [Hgl.out]; omega)
            rw [List.length_append, List.length_append, be_len, h2, Byt.arr_size, hul]
            omega
          clear hr0 hu hat hul
          go_wp2_with (first | ((with_reducible refine at_load 35 ?_); refine Ids.wl_load rfl rfl rfl HU.out R1.out ?_; simp only [Act.put, List.setIfInBounds_toArray, List.set_cons_zero, List.set_cons_succ]) | ((with_reducible refine at_alloc 35 ?_); refine St.wl_alloc tyI rfl rfl (by (try simp only [World.size_alloc]); rfl) ?_; simp only [Act.put, List.setIfInBounds_toArray, List.set_cons_zero, List.set_cons_succ]) | ((with_reducible refine at_store 35 ?_); refine St.wl_storeN (W := wr) tyI rfl rfl rfl rfl rfl (by (try simp only [World.size_alloc])) (show _ = Value.agg (u.map bv).toArray from rfl) HUs.out rfl (one_bv _) ?_; have HM : Hid _ := HM.out.alloc (.cells (u.map bv).toArray 35) rfl) | (go_at_call 70; refine (M.wraw HM.out 3 rfl ⟨u.toArray⟩ HLn.out).mono ?_; rintro e w7 ⟨rfl, sv7, h7⟩; have HM : Hid _ := h7; clear h7))
          go_roundw
          case rel =>
            refine ⟨k + 1, sv7, by omega, by go_num, ?_⟩
            rw [HE.out]
            have := HM.out.take 4
            simpa [List.append_assoc] using this
          case measure => simp [intOf]; omega
        · obtain rfl : g = k := by omega
          have HM : Hid (M (foot b bn bb bg B) w wr [sqI b bn bb bg N B G, ids (.slice la q lc) l, ids (.slice ga g gc) G', Mem.wr bw (cs ++ be 4 g ++ G'.flatten) sv]) := by have := HM.out; rwa [List.take_of_length_le (by rw [Hgl.out]; exact Nat.le_refl _)] at this
          have HP : Hid (putB X G' = cs ++ be 4 g ++ G'.flatten) := by show _ = _; unfold putB; rw [Hq.out, Hgl.out, HCs.out]
          go_wp2_with (first | (go_at_call 71; refine (M.wdone HM.out 3 rfl).mono ?_; rintro e w7 ⟨rfl, h7⟩; have HM : Hid _ := h7; clear h7))
          go_ret
          refine ⟨?_, STo.ofI HM.out 0 rfl⟩
          rw [HP.out, List.append_assoc]
          rfl
end Sq
end Go.Proofs.Ytgpimeobkacniaa
