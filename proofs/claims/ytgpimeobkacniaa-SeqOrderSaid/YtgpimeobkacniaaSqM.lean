/-
  seq.Load.
-/
import Derived.Test.YtgpimeobkacniaaSqJ
import Derived.Test.YtgpimeobkacniaaSqZ
set_option linter.unusedVariables false
set_option linter.unusedSimpArgs false
namespace Go.Proofs.Ytgpimeobkacniaa
open Go.RowKit
namespace Sq
open Oct Ids Mp Seg
open Mem (M It blk ids rows rd)
open Ref (endv)
/-- What holds behind the first i nodes. -/
structure LdI (s : ByteArray) (L : List Dn) (a : Nat) (i : Nat) (e : Int) (N : Nds) (B : Bhs) : Prop where
  ck : ∀ d ∈ L.take i, chk d.u d.x = 0
  zf : e = 0 ∨ e = 4
  z : e = 0 → endv s a 0 = 0 ∧ IdL.Srt ((L.take i).map (·.u)) ∧ Inv N B ∧ Alk (L.take i) N
  f : e = 4 → ¬ (endv s a 0 = 0 ∧ IdL.Srt (L.map (·.u)))
  nl : N.length ≤ i
  bl : ∀ p ∈ B, p.2.2.length ≤ i
theorem endv_zf (s : ByteArray) (a : Nat) : endv s a 0 = 0 ∨ endv s a 0 = 4 := by
  unfold endv
  rw [if_pos rfl]
  split
  · exact .inl rfl
  · exact .inr rfl
theorem LdI.start (s : ByteArray) (L : List Dn) (a : Nat) : LdI s L a 0 (endv s a 0) [] [] := by
  refine ⟨fun d hd => (by cases hd), endv_zf s a, fun h => ⟨h, List.Pairwise.nil, Inv.nil, Alk.nil⟩, fun h hc => ?_, Nat.le_refl _, fun p hp => (by cases hp)⟩
  rw [h] at hc
  exact absurd hc.1 (by decide)
theorem fput_len {α β : Type} [DecidableEq α] (L : List (α × β)) (k : α) (v : β) : (fput L k v).length ≤ L.length + 1 := by
  unfold fput
  split
  · rw [List.length_map]; omega
  · rw [List.length_append]; exact Nat.le_refl _
theorem insN_len (N : Nds) (h : Int) (u : Wd) (l : List Wd) : (insN N h u l).length = l.length + 1 := by
  rw [insN_eq, List.length_append, List.length_append]
  have := congrArg List.length (List.takeWhile_append_dropWhile (p := aheadOf N h u) (l := l))
  rw [List.length_append] at this
  simp only [List.length_cons, List.length_nil]
  omega
theorem take_ck {L : List Dn} {i : Nat} {d : Dn} (hd : L[i]? = some d) (h : ∀ e ∈ L.take i, chk e.u e.x = 0) (hc : chk d.u d.x = 0) : ∀ e ∈ L.take (i + 1), chk e.u e.x = 0 := fun e he => by
  rw [List.take_add_one, hd] at he
  rcases List.mem_append.1 he with h1 | h1
  · exact h e h1
  · obtain rfl : e = d := by simpa using h1
    exact hc
theorem tw_self {p : Dn → Bool} : ∀ {l : List Dn}, (∀ y ∈ l, p y = true) → l.takeWhile p = l ∧ l.dropWhile p = []
  | [], _ => ⟨rfl, rfl⟩
  | y :: l, h => by
    obtain ⟨h1, h2⟩ := tw_self (l := l) (fun z hz => h z (List.mem_cons_of_mem _ hz))
    have := h y List.mem_cons_self
    simp [this, h1, h2]
theorem LdI.hang {s : ByteArray} {L : List Dn} {a i : Nat} {e : Int} {N : Nds} {B : Bhs} (h : LdI s L a i e N B) {d : Dn} (hd : L[i]? = some d) (hc : chk d.u d.x = 0) (ho : i = 0 ∨ ∃ j y, i = j + 1 ∧ L[j]? = some y ∧ IdL.cmpL y.u d.u < 0) (v : Value) :
    LdI s L a (i + 1) e (fput N d.u d.x) (fput B d.x.r (v, insN N d.x.h d.u (rowB B d.x.r).2)) := by
  refine ⟨take_ck hd h.ck hc, h.zf, fun h0 => ?_, h.f, Nat.le_trans (fput_len _ _ _) (Nat.add_le_add_right h.nl 1), fun p hp => ?_⟩
  · obtain ⟨h1, h2, h3, h4⟩ := h.z h0
    have hs : IdL.Srt ((L.take (i + 1)).map (·.u)) := by
      rw [List.take_add_one, hd, List.map_append]
      unfold IdL.Srt at h2 ⊢
      rw [List.pairwise_append]
      refine ⟨h2, by simp, fun x hx y hy => ?_⟩
      have hy' : y = d.u := by simpa using hy
      subst hy'
      rcases ho with h0 | ⟨j, z, rfl, hz, hlt⟩
      · subst h0
        cases hx
      · rw [List.take_add_one, hz, List.map_append] at hx h2
        rw [List.pairwise_append] at h2
        rcases List.mem_append.1 hx with hx | hx
        · exact IdL.cmpL_trans _ _ _ (h2.2.2 x hx z.u (by simp)) hlt
        · have : x = z.u := by simpa using hx
          rw [this]
          exact hlt
    have hn : d.u ∉ N.map (·.1) := fun hm => by
      rw [← h4.keys] at hm
      rw [List.take_add_one, hd, List.map_append] at hs
      unfold IdL.Srt at hs
      rw [List.pairwise_append] at hs
      exact IdL.cmpL_irr _ (hs.2.2 d.u hm d.u (by simp))
    refine ⟨h1, hs, h3.put d.hu hc hn v, ?_⟩
    have e1 : insD (L.take i) d = L.take (i + 1) := by
      have hx : d.u ∉ (L.take i).map (·.u) := fun hm => hn ((h4.keys _).1 hm)
      have hall : ∀ y ∈ L.take i, IdL.cmpL y.u d.u < 0 := fun y hy => by
        rw [List.take_add_one, hd, List.map_append] at hs
        unfold IdL.Srt at hs
        rw [List.pairwise_append] at hs
        exact hs.2.2 y.u (List.mem_map.2 ⟨y, hy, rfl⟩) d.u (by simp)
      obtain ⟨t1, t2⟩ := tw_self (p := fun y => decide (IdL.cmpL y.u d.u < 0)) (fun y hy => decide_eq_true (hall y hy))
      unfold insD
      rw [if_neg hx, t1, t2, List.take_add_one, hd]
      rfl
    rw [← e1]
    exact h4.put d hn
  · rcases mem_fput hp with rfl | hp
    · show (insN N d.x.h d.u (rowB B d.x.r).2).length ≤ i + 1
      rw [insN_len]
      refine Nat.add_le_add_right ?_ 1
      unfold rowB
      cases he : fget B d.x.r with
      | none => exact Nat.zero_le _
      | some p => exact h.bl _ (fget_mem he)
    · exact Nat.le_trans (h.bl p hp) (Nat.le_succ _)
theorem LdI.skip {s : ByteArray} {L : List Dn} {a i : Nat} {e : Int} {N : Nds} {B : Bhs} (h : LdI s L a (i + 1) e N B) {d y : Dn} (hd : L[i + 1]? = some d) (hc : chk d.u d.x = 0) (hy : L[i]? = some y) (hn : ¬ IdL.cmpL y.u d.u < 0) : LdI s L a (i + 2) 4 N B := by
  refine ⟨take_ck hd h.ck hc, .inr rfl, fun h0 => (by cases h0), fun _ hf => hn ?_, Nat.le_trans h.nl (Nat.le_succ _), fun p hp => Nat.le_trans (h.bl p hp) (Nat.le_succ _)⟩
  exact IdL.srt_next hf.2 (by rw [List.getElem?_map, hy]; rfl) (by rw [List.getElem?_map, hd]; rfl)
theorem raw_size {s : ByteArray} {a : Nat} {b n : Int} {x : ByteArray} {a' : Nat} {b' : Int} (h : rraw s a b n = (x, a', b')) : x.size ≤ s.size := by
  unfold rraw at h
  split at h
  · cases h; exact Nat.zero_le _
  · split at h
    · cases h; exact Nat.zero_le _
    · split at h
      · cases h; exact Nat.zero_le _
      · cases h
        rw [ByteArray.size_extract]
        omega
theorem rdL_vs (s : ByteArray) (a : Nat) (b : Int) : ∀ k, ∀ d ∈ (rdL s a b k).1, d.x.v.size ≤ s.size
  | 0, d, hd => by cases hd
  | k + 1, d, hd => by
    have hd' : d ∈ (rdL s a b k).1 ++ [(rd1 s (rdL s a b k).2.1 (rdL s a b k).2.2).1] := hd
    rcases List.mem_append.1 hd' with h1 | h1
    · exact rdL_vs s a b k d h1
    · obtain rfl := List.mem_singleton.1 h1
      obtain ⟨u, hu, n, r, hr, v, a5, b5, h5⟩ := r5_of s (rdL s a b k).2.1 (rdL s a b k).2.2
      rw [h5.one]
      obtain ⟨_, _, _, _, _, _, _, _, _, _, _, _, _, _, _, _, _, q⟩ := h5
      exact raw_size q
theorem RdA.vs {s : ByteArray} {L : List Dn} {G : List Wd} {a : Nat} {b : Int} (h : RdA s L G a b) : ∀ d ∈ L, d.x.v.size ≤ s.size := by
  obtain ⟨n, a1, b1, k, a2, b2, m, a3, b3, j, h1, h2, h3, h4, h5, h6⟩ := h
  have := rdL_vs s a1 b1 k
  rw [h3] at this
  exact this
theorem RdA.each {s : ByteArray} {L : List Dn} {G : List Wd} {a : Nat} {b : Int} (h : RdA s L G a b) : ∀ u ∈ G, u.length = 32 := by
  obtain ⟨n, a1, b1, k, a2, b2, m, a3, b3, j, h1, h2, h3, h4, h5, h6⟩ := h
  have := ids_each s a3 b3 j
  rw [h6] at this
  exact this
/-- What Load comes to. -/
structure SLdPost (w : World) (s : ByteArray) (e : Ending) (w' : World) : Prop where
  ex : ∃ (L : List Dn) (G : List Wd) (a : Nat) (b v : Int) (p : Value), e = .returned (.tuple #[p, .int .i64 v]) ∧ RdA s L G a b ∧ LdV s L G a b v ∧ Keep (fun _ => False) w w' ∧ (v ≠ 0 → p = .pointer none) ∧ (v = 0 → ∃ (b bn bb bg : Nat) (N : Nds) (B : Bhs), p = .pointer (some ⟨b, 0, none⟩) ∧ M (fun _ => False) w w' [sqI b bn bb bg N B G] ∧ Inv N B ∧ Alk L N)
theorem M.app1 {F : Nat → Prop} {w0 w w' : World} {l : List It} {x : It} (h : M F w0 w l) (m : M (fun _ => False) w w' [x]) : M F w0 w' (l ++ [x]) :=
  h.add (x := x) m.keep (m.get 0 rfl) (fun k hk => by
    have := m.rng 0 x rfl k hk
    exact ⟨this.1.resolve_right (fun h => h), this.2⟩)
theorem rng_n {w : World} {b o : Nat} {d : Dn} (h : w.rangeAt b o (de d)) : w.rangeAt b (o + 32) (ne d.x) := fun j v hj => by
  have e := h (32 + j) v (by
    unfold de
    rw [List.getElem?_append_right (by rw [List.length_map, d.hu]; omega), List.length_map, d.hu, Nat.add_sub_cancel_left]
    exact hj)
  rwa [← Nat.add_assoc] at e
theorem at_dt {ops : Array Oper} {rest : List Oper} {op : Op} {ty : TypeId} {ps : String} {af} {g} {S : World → Prop} {ts : List Nat} {a : Act} {w : World} {Q : Act → World → Prop} (d : Tmp) (h : Txt.wpTG Try.prog ops S Q (⟨some d, op, ty, ps, af, g⟩ :: rest) ts a w) : Txt.wpTG Try.prog ops S Q (⟨some d, op, ty, ps, af, g⟩ :: rest) ts a w := h
theorem addG_take {G : List Wd} (hs : IdL.Srt G) {j : Nat} {u : Wd} (hu : G[j]? = some u) : addG (G.take j) u = G.take (j + 1) := by
  have hn : u ∉ G.take j := fun hm => by
    have h1 := IdL.srt_nodup hs
    obtain ⟨hlt, he⟩ := List.getElem?_eq_some_iff.1 hu
    have e : G = G.take j ++ u :: G.drop (j + 1) := by
      rw [← he, List.getElem_cons_drop, List.take_append_drop]
    rw [e, List.nodup_append] at h1
    exact h1.2.2 u hm u List.mem_cons_self rfl
  unfold addG
  rw [if_neg hn, List.take_add_one, hu]
  rfl
abbrev rNm (v : Value) (L : List Dn) : It := rows 136 66 de v L
set_option maxRecDepth 100000 in
set_option maxHeartbeats 16000000 in
theorem sload_any (w : World) (s : ByteArray) (hs : s.size ≤ 30000) :
    Calls Try.prog 46 #[.string s] w (SLdPost w s) := by
  have HM : Hid (M (fun _ => False) w w []) := M.start _ w
  have Hs : Hid (s.size ≤ 30000) := hs
  have Hsm : Hid (s.size ≤ maxLen) := by show _ ≤ _; unfold maxLen; omega
  obtain ⟨rb, hrb⟩ : ∃ b, w.heap.size = b := ⟨_, rfl⟩
  have Hrb : Hid (w.heap.size = rb) := hrb
  clear hs hrb
  go_enter Try.func46, Try.ntmps46
  go_wp2_with (first | (go_at_call 79; refine (M.open HM.out s Hsm.out Hrb.out).mono ?_; rintro e w1 ⟨rfl, h1⟩; have HM : Hid (M (fun _ => False) w w1 [rd rb s 0 0]) := h1; clear h1) | (go_at_call 85; refine (sread_any _ rb s (HM.out.get 0 rfl) Hs.out).mono ?_; rintro e w2 ⟨L, G, a, bad, v1, v2, rfl, hR, m2⟩; have HR : Hid (RdA s L G a bad) := hR; have HM : Hid (M (fun _ => False) w w2 [rd rb s a bad, rNm v1 L, ids v2 G]) := widen m2 HM.out.keep (fun j hj => by rw [hj, ← Hrb.out]; exact Nat.le_refl _); clear m2 hR; obtain ⟨la, lc, el, _⟩ := (show St.Own 136 66 de w2 v1 L from HM.out.get 1 rfl).any; subst el; obtain ⟨ga, gc, eg, _⟩ := (show Ids.Own w2 v2 G from HM.out.get 2 rfl).at; subst eg; by_cases hb : bad = 0) | (go_at_call 81; refine (M.rerr HM.out 0 rfl).mono ?_; rintro e w3 ⟨rfl, h3⟩; replace h3 := h3.symm; subst h3))
  rotate_left
  · go_ret2
    exact ⟨L, G, a, bad, bad, _, rfl, HR.out, .inl ⟨hb, rfl⟩, HM.out.keep, fun _ => rfl, fun h => absurd h hb⟩
  subst hb
  obtain ⟨q, hq⟩ : ∃ q, L.length = q := ⟨_, rfl⟩
  obtain ⟨g, hg⟩ : ∃ g, G.length = g := ⟨_, rfl⟩
  have Hq : Hid (L.length = q) := hq
  have Hg : Hid (G.length = g) := hg
  rw [hq, hg] at HM
  rw [hq, hg]
  obtain ⟨hq5, hg9⟩ := HR.out.bound Hs.out
  rw [hq] at hq5
  rw [hg] at hg9
  clear hq hg
  obtain ⟨ev, hev⟩ : ∃ v, endv s a 0 = v := ⟨_, rfl⟩
  have Hev : Hid (endv s a 0 = ev) := hev
  clear hev
  go_wp2_with (first | (go_at_call 13; refine (snew _).mono ?_; rintro e w4 ⟨b, bn, bb, bg, rfl, m4⟩; have HM : Hid (M (fun _ => False) w w4 [rd rb s a 0, rNm (.slice la q lc) L, ids (.slice ga g gc) G, sqI b bn bb bg [] [] []]) := M.app1 HM.out m4; clear m4) | (go_at_call 82; refine (M.rend HM.out 0 rfl Hev.out).mono ?_; rintro e w5 ⟨rfl, h5⟩; have HM : Hid (M (fun _ => False) w w5 [rd rb s a 0, rNm (.slice la q lc) L, ids (.slice ga g gc) G, sqI b bn bb bg [] [] []]) := h5; clear h5))
  go_loopw [31, 8] (fun s31 s8 wr => ∃ (i : Nat) (e : Int) (N : Nds) (B : Bhs), i ≤ q ∧ s31 = .int .i64 i ∧ s8 = .int .i64 e ∧ M (fun _ => False) w wr [rd rb s a 0, rNm (.slice la q lc) L, ids (.slice ga g gc) G, sqI b bn bb bg N B []] ∧ LdI s L a i e N B) (fun s31 _ _ => q - (intOf s31).toNat)
  case atStart => exact ⟨0, ev, [], [], Nat.zero_le _, by go_num, rfl, HM.out, by rw [← Hev.out]; exact LdI.start s L a⟩
  case round =>
    clear HM
    obtain ⟨i, e, N, B, hi, rfl, rfl, hM, hI⟩ := hrel
    have HM : Hid (M (fun _ => False) w wr [rd rb s a 0, rNm (.slice la q lc) L, ids (.slice ga g gc) G, sqI b bn bb bg N B []]) := hM
    have HI : Hid (LdI s L a i e N B) := hI
    clear hM hI
    by_cases hlt : i < q
    · obtain ⟨d, hd⟩ : ∃ d, L[i]? = some d := ⟨_, List.getElem?_eq_getElem (by rw [Hq.out]; exact hlt)⟩
      have Hd : Hid (L[i]? = some d) := hd
      obtain ⟨g0, o0, e0, _, hr0⟩ := (own_sl (show St.Own 136 66 de wr (.slice la q lc) L from HM.out.get 1 rfl)).2.lay.resolve_left (by omega)
      subst e0
      have Rd : Hid (wr.rangeAt g0 (o0 + i * 66) (de d)) := hr0 i d hd
      have HU : Hid (d.u.length = 32) := d.hu
      have HDl : Hid ((de d).length = 66) := de_len d
      have HNl : Hid ((ne d.x).length = 34) := ne_len d.x
      have HV : Hid (d.x.v.size ≤ maxLen) := Nat.le_trans (HR.out.vs d (List.mem_of_getElem? hd)) Hsm.out
      have HM : Hid (M (fun _ => False) w _ [rd rb s a 0, rNm (.slice (some ⟨g0, o0, none⟩) q lc) L, ids (.slice ga g gc) G, sqI b bn bb bg N B [], blk wr.heap.size (.cells (de d).toArray 136)]) := HM.out.alloc (.cells (de d).toArray 136) rfl
      have RU : Hid _ := rng_u (HM.out.range 4 rfl)
      have RN : Hid _ := rng_n (HM.out.range 4 rfl)
      obtain ⟨ob, hob⟩ : ∃ n, wr.heap.size = n := ⟨_, rfl⟩
      have Hob : Hid (wr.heap.size = ob) := hob
      rw [hob] at HM RU RN
      simp only [Nat.zero_add] at RN
      have HB1 : Hid (∀ p ∈ B, p.2.2.length ≤ 1000) := fun p hp => Nat.le_trans (HI.out.bl p hp) (by omega)
      obtain ⟨t, ht⟩ : ∃ t, chk d.u d.x = t := ⟨_, rfl⟩
      have HT : Hid (chk d.u d.x = t) := ht
      have HCk : Hid (∀ w, Calls Try.prog 86 #[idv d.u, .agg (ne d.x).toArray] w fun e w' => e = .returned (.int .i64 t) ∧ Keep (fun _ => False) w w') := fun w => by
        have := check_any w d.u d.hu d.x HV.out
        rwa [ht] at this
      clear hr0 hd hob ht
      by_cases h0 : t = 0
      · subst h0
        cases i with
        | zero =>
          have HI2 : Hid _ := fun v => HI.out.hang Hd.out HT.out (.inl rfl) v
          go_wp2_with (first | ((with_reducible refine at_load 136 ?_); refine St.wl_load tyNm rfl rfl rfl Rd.out HDl.out ?_; simp only [Act.put, List.setIfInBounds_toArray, List.set_cons_zero, List.set_cons_succ]) | ((with_reducible refine at_alloc 136 ?_); refine St.wl_alloc tyNm rfl rfl Hob.out ?_; simp only [Act.put, List.setIfInBounds_toArray, List.set_cons_zero, List.set_cons_succ]) | ((with_reducible refine at_store 136 ?_); refine St.wl_storeN (W := wr) tyNm rfl rfl rfl rfl rfl Hob.out (show _ = Value.agg (de d).toArray from rfl) (de_sz66 _) rfl (encD.all _) ?_) | ((with_reducible refine at_load 35 ?_); refine Ids.wl_load rfl rfl rfl HU.out RU.out ?_; simp only [Act.put, List.setIfInBounds_toArray, List.set_cons_zero, List.set_cons_succ]) | ((with_reducible refine at_load 124 ?_); refine St.wl_load tyN rfl rfl rfl RN.out HNl.out ?_; simp only [Act.put, List.setIfInBounds_toArray, List.set_cons_zero, List.set_cons_succ]) | (go_at_call 86; refine (HCk.out _).mono ?_; rintro e w6 ⟨rfl, k6⟩; have HM : Hid _ := HM.out.calm k6; have RU : Hid _ := rng_u (HM.out.range 4 rfl); clear k6))
          have HM : Hid _ := HM.out.drew
          refine Txt.wp_region_text (fun _ => True) [0, 0, 0, 0, 0, 0, 0, 0, 1, 0, 1, 4, 0, 0] (by kernel_rfl) (by kernel_rfl) trivial ?_
          (repeat (first | (refine Txt.tl_pure (v := ?_) (by rfl) ?_ ?_; rotate_left; (focus (intro _; go_simp; try with_reducible rfl)); simp only [Act.put, List.setIfInBounds_toArray, List.set_cons_zero, List.set_cons_succ]) | (refine Txt.tl_load (v := ?_) (by rfl) (by rfl) (by rfl) (by kernel_rfl) ?_ ?_; rotate_left; (focus assumption); simp only [Act.put, List.setIfInBounds_toArray, List.set_cons_zero, List.set_cons_succ]) | (refine Txt.tl_rowN (n := 32) (ty := 35) (by rfl) (by rfl) (by rfl) RY.out (by kernel_rfl) (by rw [List.length_map]; exact HYl.out) ?_; simp only [Act.put, List.setIfInBounds_toArray, List.set_cons_zero, List.set_cons_succ]) | (refine Txt.tl_rowN (n := 32) (ty := 35) (by rfl) (by rfl) (by rfl) RU.out (by kernel_rfl) (by rw [List.length_map]; exact HU.out) ?_; simp only [Act.put, List.setIfInBounds_toArray, List.set_cons_zero, List.set_cons_succ]) | (refine Txt.tl_skip (by rfl) trivial ?_; simp only [Act.put, List.setIfInBounds_toArray, List.set_cons_zero, List.set_cons_succ])))
          refine Txt.tl_nil ?_
          have RU : Hid _ := rng_u (HM.out.range 4 rfl)
          have RN : Hid _ := rng_n (HM.out.range 4 rfl)
          simp only [Nat.zero_add] at RN
          go_wp2_with (first | ((with_reducible refine at_load 35 ?_); refine Ids.wl_load rfl rfl rfl HU.out RU.out ?_; simp only [Act.put, List.setIfInBounds_toArray, List.set_cons_zero, List.set_cons_succ]) | ((with_reducible refine at_load 124 ?_); refine St.wl_load tyN rfl rfl rfl RN.out HNl.out ?_; simp only [Act.put, List.setIfInBounds_toArray, List.set_cons_zero, List.set_cons_succ]) | (go_at_call 88; refine (hang_any _ b bn bb bg N B [] (HM.out.get 3 rfl) HB1.out d.u d.hu d.x).mono ?_; rintro e w8 ⟨rfl, v8, t8⟩; have HM : Hid _ := M.sto HM.out 3 rfl t8; clear t8))
          go_roundw
          case rel => exact ⟨_, e, _, _, by omega, by go_num, rfl, HM.out.take 4, HI2.out v8⟩
          case measure => simp [intOf]; omega
        | succ i =>
          obtain ⟨y, hy⟩ : ∃ y, L[i]? = some y := ⟨_, List.getElem?_eq_getElem (by rw [Hq.out]; omega)⟩
          have Hy : Hid (L[i]? = some y) := hy
          have HYl : Hid (y.u.length = 32) := y.hu
          obtain ⟨c, hc⟩ : ∃ c, IdL.cmpL y.u d.u = c := ⟨_, rfl⟩
          have HC : Hid (∀ w, Calls Try.prog 87 #[idv y.u, idv d.u] w fun e w' => e = .returned (.int .i64 c) ∧ Keep (fun _ => False) w w') := fun w => by
            have := compare_any w y.u d.u y.hu d.hu
            rw [hc] at this
            exact this.mono fun e w' h => ⟨h.1, h.2.keep⟩
          have hiq : i < q := by omega
          have hwr : IntKind.i64.wrap (i : Int) = (i : Int) := by rw [IntKind.wrap_i64]; omega
          by_cases hcn : c < 0
          · have HI2 : Hid _ := fun v => HI.out.hang Hd.out HT.out (.inr ⟨i, y, rfl, hy, by rw [hc]; exact hcn⟩) v
            have hcd : ¬ 0 ≤ c := by omega
            clear hy hc
            go_wp2_with (first | ((with_reducible refine at_load 136 ?_); refine St.wl_load tyNm rfl rfl rfl Rd.out HDl.out ?_; simp only [Act.put, List.setIfInBounds_toArray, List.set_cons_zero, List.set_cons_succ]) | ((with_reducible refine at_alloc 136 ?_); refine St.wl_alloc tyNm rfl rfl Hob.out ?_; simp only [Act.put, List.setIfInBounds_toArray, List.set_cons_zero, List.set_cons_succ]) | ((with_reducible refine at_store 136 ?_); refine St.wl_storeN (W := wr) tyNm rfl rfl rfl rfl rfl Hob.out (show _ = Value.agg (de d).toArray from rfl) (de_sz66 _) rfl (encD.all _) ?_) | ((with_reducible refine at_load 35 ?_); refine Ids.wl_load rfl rfl rfl HU.out RU.out ?_; simp only [Act.put, List.setIfInBounds_toArray, List.set_cons_zero, List.set_cons_succ]) | ((with_reducible refine at_load 124 ?_); refine St.wl_load tyN rfl rfl rfl RN.out HNl.out ?_; simp only [Act.put, List.setIfInBounds_toArray, List.set_cons_zero, List.set_cons_succ]) | (go_at_call 86; refine (HCk.out _).mono ?_; rintro e w6 ⟨rfl, k6⟩; have HM : Hid _ := HM.out.calm k6; have RU : Hid _ := rng_u (HM.out.range 4 rfl); clear k6))
            have HM : Hid _ := HM.out.drew
            have RZ := (own_sl (show St.Own 136 66 de _ (.slice (some ⟨g0, o0, none⟩) q lc) L from HM.out.get 1 rfl)).2.lay.resolve_left (by omega) |> fun ⟨_, _, e, _, hr⟩ => (by cases e; exact hr i y Hy.out : World.rangeAt _ g0 (o0 + i * 66) (de y))
            have RY : Hid _ := rng_u RZ
            have RU : Hid _ := rng_u (HM.out.range 4 rfl)
            clear RZ
            refine Txt.wp_region_text (fun _ => True) [0, 0, 0, 0, 0, 0, 0, 0, 1, 0, 1, 4, 0, 0] (by kernel_rfl) (by kernel_rfl) trivial ?_
            (repeat (first | ((with_reducible refine at_dt 49 ?_); refine Txt.tl_pure (v := .int .i64 (i : Int)) (by rfl) ?_ ?_; (focus (intro _; go_simp; try exact hwr)); simp only [Act.put, List.setIfInBounds_toArray, List.set_cons_zero, List.set_cons_succ]) | (refine Txt.tl_pure (v := ?_) (by rfl) ?_ ?_; rotate_left; (focus (intro _; go_simp; try with_reducible rfl)); simp only [Act.put, List.setIfInBounds_toArray, List.set_cons_zero, List.set_cons_succ]) | (refine Txt.tl_rowN (n := 32) (ty := 35) (by rfl) (by rfl) (by rfl) RY.out (by kernel_rfl) (by rw [List.length_map]; exact HYl.out) ?_; simp only [Act.put, List.setIfInBounds_toArray, List.set_cons_zero, List.set_cons_succ]) | (refine Txt.tl_rowN (n := 32) (ty := 35) (by rfl) (by rfl) (by rfl) RU.out (by kernel_rfl) (by rw [List.length_map]; exact HU.out) ?_; simp only [Act.put, List.setIfInBounds_toArray, List.set_cons_zero, List.set_cons_succ])))
            refine Txt.tl_call Try.func87 (by kernel_rfl) (by kernel_rfl) (by rfl) (by rfl) (by rfl) (HC.out _) ?_
            rintro e w7 ⟨rfl, k7⟩
            have HM : Hid _ := HM.out.calm k7
            clear k7
            refine ⟨_, rfl, trivial, ?_⟩
            simp only [Act.put, List.setIfInBounds_toArray, List.set_cons_zero, List.set_cons_succ]
            (repeat (first | (refine Txt.tl_pure (v := ?_) (by rfl) ?_ ?_; rotate_left; (focus (intro _; go_simp; try with_reducible rfl)); simp only [Act.put, List.setIfInBounds_toArray, List.set_cons_zero, List.set_cons_succ]) | (refine Txt.tl_load (v := ?_) (by rfl) (by rfl) (by rfl) (by kernel_rfl) ?_ ?_; rotate_left; (focus assumption); simp only [Act.put, List.setIfInBounds_toArray, List.set_cons_zero, List.set_cons_succ]) | (refine Txt.tl_rowN (n := 32) (ty := 35) (by rfl) (by rfl) (by rfl) RY.out (by kernel_rfl) (by rw [List.length_map]; exact HYl.out) ?_; simp only [Act.put, List.setIfInBounds_toArray, List.set_cons_zero, List.set_cons_succ]) | (refine Txt.tl_rowN (n := 32) (ty := 35) (by rfl) (by rfl) (by rfl) RU.out (by kernel_rfl) (by rw [List.length_map]; exact HU.out) ?_; simp only [Act.put, List.setIfInBounds_toArray, List.set_cons_zero, List.set_cons_succ]) | (refine Txt.tl_skip (by rfl) trivial ?_; simp only [Act.put, List.setIfInBounds_toArray, List.set_cons_zero, List.set_cons_succ])))
            refine Txt.tl_nil ?_
            have RU : Hid _ := rng_u (HM.out.range 4 rfl)
            have RN : Hid _ := rng_n (HM.out.range 4 rfl)
            simp only [Nat.zero_add] at RN
            go_wp2_with (first | ((with_reducible refine at_load 35 ?_); refine Ids.wl_load rfl rfl rfl HU.out RU.out ?_; simp only [Act.put, List.setIfInBounds_toArray, List.set_cons_zero, List.set_cons_succ]) | ((with_reducible refine at_load 124 ?_); refine St.wl_load tyN rfl rfl rfl RN.out HNl.out ?_; simp only [Act.put, List.setIfInBounds_toArray, List.set_cons_zero, List.set_cons_succ]) | (go_at_call 88; refine (hang_any _ b bn bb bg N B [] (HM.out.get 3 rfl) HB1.out d.u d.hu d.x).mono ?_; rintro e w8 ⟨rfl, v8, t8⟩; have HM : Hid _ := M.sto HM.out 3 rfl t8; clear t8))
            go_roundw
            case rel => exact ⟨_, e, _, _, by omega, by go_num, rfl, HM.out.take 4, HI2.out v8⟩
            case measure => simp [intOf]; omega
          · have HI2 : Hid _ := HI.out.skip Hd.out HT.out hy (by rw [hc]; exact hcn)
            have hcd : 0 ≤ c := by omega
            clear hy hc
            go_wp2_with (first | ((with_reducible refine at_load 136 ?_); refine St.wl_load tyNm rfl rfl rfl Rd.out HDl.out ?_; simp only [Act.put, List.setIfInBounds_toArray, List.set_cons_zero, List.set_cons_succ]) | ((with_reducible refine at_alloc 136 ?_); refine St.wl_alloc tyNm rfl rfl Hob.out ?_; simp only [Act.put, List.setIfInBounds_toArray, List.set_cons_zero, List.set_cons_succ]) | ((with_reducible refine at_store 136 ?_); refine St.wl_storeN (W := wr) tyNm rfl rfl rfl rfl rfl Hob.out (show _ = Value.agg (de d).toArray from rfl) (de_sz66 _) rfl (encD.all _) ?_) | ((with_reducible refine at_load 35 ?_); refine Ids.wl_load rfl rfl rfl HU.out RU.out ?_; simp only [Act.put, List.setIfInBounds_toArray, List.set_cons_zero, List.set_cons_succ]) | ((with_reducible refine at_load 124 ?_); refine St.wl_load tyN rfl rfl rfl RN.out HNl.out ?_; simp only [Act.put, List.setIfInBounds_toArray, List.set_cons_zero, List.set_cons_succ]) | (go_at_call 86; refine (HCk.out _).mono ?_; rintro e w6 ⟨rfl, k6⟩; have HM : Hid _ := HM.out.calm k6; have RU : Hid _ := rng_u (HM.out.range 4 rfl); clear k6))
            have HM : Hid _ := HM.out.drew
            have RZ := (own_sl (show St.Own 136 66 de _ (.slice (some ⟨g0, o0, none⟩) q lc) L from HM.out.get 1 rfl)).2.lay.resolve_left (by omega) |> fun ⟨_, _, e, _, hr⟩ => (by cases e; exact hr i y Hy.out : World.rangeAt _ g0 (o0 + i * 66) (de y))
            have RY : Hid _ := rng_u RZ
            have RU : Hid _ := rng_u (HM.out.range 4 rfl)
            clear RZ
            refine Txt.wp_region_text (fun _ => True) [0, 0, 0, 0, 0, 0, 0, 0, 1, 0, 1, 4, 0, 0] (by kernel_rfl) (by kernel_rfl) trivial ?_
            (repeat (first | ((with_reducible refine at_dt 49 ?_); refine Txt.tl_pure (v := .int .i64 (i : Int)) (by rfl) ?_ ?_; (focus (intro _; go_simp; try exact hwr)); simp only [Act.put, List.setIfInBounds_toArray, List.set_cons_zero, List.set_cons_succ]) | (refine Txt.tl_pure (v := ?_) (by rfl) ?_ ?_; rotate_left; (focus (intro _; go_simp; try with_reducible rfl)); simp only [Act.put, List.setIfInBounds_toArray, List.set_cons_zero, List.set_cons_succ]) | (refine Txt.tl_rowN (n := 32) (ty := 35) (by rfl) (by rfl) (by rfl) RY.out (by kernel_rfl) (by rw [List.length_map]; exact HYl.out) ?_; simp only [Act.put, List.setIfInBounds_toArray, List.set_cons_zero, List.set_cons_succ]) | (refine Txt.tl_rowN (n := 32) (ty := 35) (by rfl) (by rfl) (by rfl) RU.out (by kernel_rfl) (by rw [List.length_map]; exact HU.out) ?_; simp only [Act.put, List.setIfInBounds_toArray, List.set_cons_zero, List.set_cons_succ])))
            refine Txt.tl_call Try.func87 (by kernel_rfl) (by kernel_rfl) (by rfl) (by rfl) (by rfl) (HC.out _) ?_
            rintro e w7 ⟨rfl, k7⟩
            have HM : Hid _ := HM.out.calm k7
            clear k7
            refine ⟨_, rfl, trivial, ?_⟩
            simp only [Act.put, List.setIfInBounds_toArray, List.set_cons_zero, List.set_cons_succ]
            (repeat (first | (refine Txt.tl_pure (v := ?_) (by rfl) ?_ ?_; rotate_left; (focus (intro _; go_simp; try with_reducible rfl)); simp only [Act.put, List.setIfInBounds_toArray, List.set_cons_zero, List.set_cons_succ]) | (refine Txt.tl_load (v := ?_) (by rfl) (by rfl) (by rfl) (by kernel_rfl) ?_ ?_; rotate_left; (focus assumption); simp only [Act.put, List.setIfInBounds_toArray, List.set_cons_zero, List.set_cons_succ]) | (refine Txt.tl_rowN (n := 32) (ty := 35) (by rfl) (by rfl) (by rfl) RY.out (by kernel_rfl) (by rw [List.length_map]; exact HYl.out) ?_; simp only [Act.put, List.setIfInBounds_toArray, List.set_cons_zero, List.set_cons_succ]) | (refine Txt.tl_rowN (n := 32) (ty := 35) (by rfl) (by rfl) (by rfl) RU.out (by kernel_rfl) (by rw [List.length_map]; exact HU.out) ?_; simp only [Act.put, List.setIfInBounds_toArray, List.set_cons_zero, List.set_cons_succ]) | (refine Txt.tl_skip (by rfl) trivial ?_; simp only [Act.put, List.setIfInBounds_toArray, List.set_cons_zero, List.set_cons_succ])))
            refine Txt.tl_nil ?_
            go_wp2
            go_roundw
            case rel => exact ⟨i + 2, 4, N, B, by omega, by go_num, rfl, HM.out.take 4, HI2.out⟩
            case measure => simp [intOf]; omega
      · have hbf : (t != 0) = true := by simpa using h0
        have H0 : Hid (t ≠ 0) := h0
        go_wp2_with (first | ((with_reducible refine at_load 136 ?_); refine St.wl_load tyNm rfl rfl rfl Rd.out HDl.out ?_; simp only [Act.put, List.setIfInBounds_toArray, List.set_cons_zero, List.set_cons_succ]) | ((with_reducible refine at_alloc 136 ?_); refine St.wl_alloc tyNm rfl rfl Hob.out ?_; simp only [Act.put, List.setIfInBounds_toArray, List.set_cons_zero, List.set_cons_succ]) | ((with_reducible refine at_store 136 ?_); refine St.wl_storeN (W := wr) tyNm rfl rfl rfl rfl rfl Hob.out (show _ = Value.agg (de d).toArray from rfl) (de_sz66 _) rfl (encD.all _) ?_) | ((with_reducible refine at_load 35 ?_); refine Ids.wl_load rfl rfl rfl HU.out RU.out ?_; simp only [Act.put, List.setIfInBounds_toArray, List.set_cons_zero, List.set_cons_succ]) | ((with_reducible refine at_load 124 ?_); refine St.wl_load tyN rfl rfl rfl RN.out HNl.out ?_; simp only [Act.put, List.setIfInBounds_toArray, List.set_cons_zero, List.set_cons_succ]) | (go_at_call 86; refine (HCk.out _).mono ?_; rintro e w6 ⟨rfl, k6⟩; have HM : Hid _ := HM.out.calm k6; have RU : Hid _ := rng_u (HM.out.range 4 rfl); clear k6))
        go_ret2
        exact ⟨L, G, a, 0, t, _, rfl, HR.out, .inr ⟨rfl, .inl ⟨d, bad_at Hd.out HI.out.ck (by rw [HT.out]; exact H0.out), HT.out.symm⟩⟩, HM.out.keep, fun _ => rfl, fun h => absurd h H0.out⟩
    · obtain rfl : q = i := by omega
      have HTk : Hid (L.take q = L) := List.take_of_length_le (by rw [Hq.out]; exact Nat.le_refl _)
      have HCk : Hid (∀ d ∈ L, chk d.u d.x = 0) := fun d hd => HI.out.ck d (by rw [HTk.out]; exact hd)
      rcases HI.out.zf with he | he
      · subst he
        go_wp2_with (first | (go_at_call 83; refine (is_any _ ga g gc G (own_idat (HM.out.get 2 rfl)) (by omega)).mono ?_; rintro e w9 ⟨⟨r, rfl, hr⟩, k9⟩; have HSr : Hid (r = true → IdL.Srt G) := hr.1; have HSf : Hid (IdL.Srt G → r = true) := hr.2; have HM : Hid _ := HM.out.calm k9; clear hr k9; cases r))
        · go_ret2
          have hSf : ¬ IdL.Srt G := by first | exact fun h => (by have := HSf.out h; cases this) | exact HSf.out
          exact ⟨L, G, a, 0, 4, _, rfl, HR.out, .inr ⟨rfl, .inr ⟨bad_none.2 HCk.out, .inr ⟨rfl, fun hf => hSf hf.2.2⟩⟩⟩, HM.out.keep, fun _ => rfl, fun h => (by cases h)⟩
        · have hSG : IdL.Srt G := by first | exact HSr.out rfl | exact HSr.out trivial | exact HSr.out
          have HSG : Hid (IdL.Srt G) := hSG
          clear hSG
          go_loopw [74] (fun s74 wr => ∃ (j : Nat), j ≤ g ∧ s74 = .int .i64 j ∧ M (fun _ => False) w wr [rd rb s a 0, rNm (.slice la q lc) L, ids (.slice ga g gc) G, sqI b bn bb bg N B (G.take j)]) (fun s74 _ => g - (intOf s74).toNat)
          case atStart => exact ⟨0, Nat.zero_le _, by go_num, HM.out⟩
          case round =>
            clear HM
            obtain ⟨j, hj, rfl, hM⟩ := hrel
            have HM : Hid (M (fun _ => False) w wr [rd rb s a 0, rNm (.slice la q lc) L, ids (.slice ga g gc) G, sqI b bn bb bg N B (G.take j)]) := hM
            clear hM
            by_cases hlt : j < g
            · obtain ⟨u, hu⟩ : ∃ u, G[j]? = some u := ⟨_, List.getElem?_eq_getElem (by rw [Hg.out]; exact hlt)⟩
              have hat : At wr ga g G := own_idat (c := gc) (HM.out.get 2 rfl)
              obtain ⟨g0, o0, e0, _, hr0⟩ := hat.lay.resolve_left (by omega)
              subst e0
              have hul := hat.size u (List.mem_of_getElem? hu)
              have R1 : Hid (wr.rangeAt g0 (o0 + j * 32) (u.map bv)) := hr0 j u hu
              have HU : Hid (u.length = 32) := hul
              have HUs : Hid ((u.map bv).toArray.size = 32) := by show _ = _; rw [List.size_toArray, List.length_map]; exact hul
              have HE : Hid (addG (G.take j) u = G.take (j + 1)) := addG_take HSG.out hu
              clear hr0 hu hat hul
              go_wp2_with (first | ((with_reducible refine at_load 35 ?_); refine Ids.wl_load rfl rfl rfl HU.out R1.out ?_; simp only [Act.put, List.setIfInBounds_toArray, List.set_cons_zero, List.set_cons_succ]) | ((with_reducible refine at_alloc 35 ?_); refine St.wl_alloc tyI rfl rfl (by (try simp only [World.size_alloc]); rfl) ?_; simp only [Act.put, List.setIfInBounds_toArray, List.set_cons_zero, List.set_cons_succ]) | ((with_reducible refine at_store 35 ?_); refine St.wl_storeN (W := wr) tyI rfl rfl rfl rfl rfl (by (try simp only [World.size_alloc])) (show _ = Value.agg (u.map bv).toArray from rfl) HUs.out rfl (one_bv _) ?_; have HM : Hid _ := HM.out.alloc (.cells (u.map bv).toArray 35) rfl))
              have HM : Hid _ := HM.out.drew
              have c2 := (show SqAt _ b bn bb bg N B (G.take j) from HM.out.get 3 rfl).cells.2.2
              refine Txt.wp_region_text (fun _ => True) [0, 0, 0, 1, 1, 4] (by kernel_rfl) (by kernel_rfl) trivial ?_
              (repeat (first | (refine Txt.tl_pure (v := ?_) (by rfl) ?_ ?_; rotate_left; (focus (intro _; go_simp; try with_reducible rfl)); simp only [Act.put, List.setIfInBounds_toArray, List.set_cons_zero, List.set_cons_succ]) | (refine Txt.tl_load (v := ?_) (by rfl) (by rfl) (by rfl) (by kernel_rfl) ?_ ?_; rotate_left; (focus assumption); simp only [Act.put, List.setIfInBounds_toArray, List.set_cons_zero, List.set_cons_succ]) | (refine Txt.tl_rowN (n := 32) (ty := 35) (by rfl) (by rfl) (by rfl) (HM.out.range 4 rfl) (by kernel_rfl) (by rw [List.length_map]; exact HU.out) ?_; simp only [Act.put, List.setIfInBounds_toArray, List.set_cons_zero, List.set_cons_succ]) | (refine Txt.tl_skip (by rfl) trivial ?_; simp only [Act.put, List.setIfInBounds_toArray, List.set_cons_zero, List.set_cons_succ])))
              refine Txt.tl_loud (by rfl) ?_
              refine Mp.wp_put idKey Try.underlying73 rfl rfl ((show SqAt _ b bn bb bg N B (G.take j) from HM.out.get 3 rfl).all.get 3 rfl) HU.out rfl (v := .bool true) rfl ?_
              rw [put_dG]
              intro w5 h5 k5
              have HM : Hid _ := M.sto HM.out 3 rfl (STo.of (M.setMap (show SqAt _ b bn bb bg N B (G.take j) from HM.out.get 3 rfl).all 3 rfl h5 k5))
              clear h5 k5 c2
              refine ⟨trivial, ?_⟩
              simp only [Act.put, List.setIfInBounds_toArray, List.set_cons_zero, List.set_cons_succ]
              refine Txt.tl_nil ?_
              go_wp2
              go_roundw
              case rel => exact ⟨j + 1, by omega, by go_num, by rw [← HE.out]; exact HM.out.take 4⟩
              case measure => simp [intOf]; omega
            · obtain rfl : g = j := by omega
              have HGt : Hid (G.take g = G) := List.take_of_length_le (by rw [Hg.out]; exact Nat.le_refl _)
              obtain ⟨hz1, hz2, hz3, hz4⟩ := HI.out.z rfl
              rw [HTk.out] at hz2 hz4
              have HFi : Hid (Fine s L G a) := ⟨hz1, hz2, HSG.out⟩
              have HI3 : Hid (Inv N B) := hz3
              have HA3 : Hid (Alk L N) := hz4
              have HM : Hid (M (fun _ => False) w wr [rd rb s a 0, rNm (.slice la q lc) L, ids (.slice ga g gc) G, sqI b bn bb bg N B G]) := by have := HM.out; rwa [HGt.out] at this
              clear hz1 hz2 hz3 hz4
              go_wp2
              go_ret2
              exact ⟨L, G, a, 0, 0, _, rfl, HR.out, .inr ⟨rfl, .inr ⟨bad_none.2 HCk.out, .inl ⟨rfl, HFi.out⟩⟩⟩, HM.out.keep, fun h => absurd rfl h, fun _ => ⟨b, bn, bb, bg, N, B, rfl, HM.out.sub _ [3] (by decide) rfl, HI3.out, HA3.out⟩⟩
      · subst he
        go_wp2
        go_ret2
        exact ⟨L, G, a, 0, 4, _, rfl, HR.out, .inr ⟨rfl, .inr ⟨bad_none.2 HCk.out, .inr ⟨rfl, fun hf => HI.out.f rfl ⟨hf.1, hf.2.1⟩⟩⟩⟩, HM.out.keep, fun _ => rfl, fun h => (by cases h)⟩
end Sq
end Go.Proofs.Ytgpimeobkacniaa
