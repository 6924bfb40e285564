/-
  'petrellaw25.SeqBehind': each node that is in order stands there once, behind its ref; of two behind the same one the one that is ahead stands behind the other one. For every input.
-/
import Derived.Test.YtgpimeobkacniaaSqZ
import Derived.Test.YtgpimeobkacniaaOpnU
set_option linter.unusedVariables false
set_option linter.unusedSimpArgs false
namespace Go.Proofs.Ytgpimeobkacniaa
open Go.RowKit Go.ChangeShapes Go.WideShapes Go.ChangeAt
namespace SeqBehind
open Oct Ids Sq
open Mem (M It blk ids rows)
def prI (y z : It) : It := ⟨fun k => y.foot k ∨ z.foot k, fun w => y.holds w ∧ z.holds w, fun w w' S h k n => ⟨y.stable w w' S h.1 k (fun j hj => n j (.inl hj)), z.stable w w' S h.2 k (fun j hj => n j (.inr hj))⟩⟩
/-- A call that leaves two things where one was. -/
theorem M.two {F : Nat → Prop} {w0 w w' : World} {l : List It} {x y z : It} (h : M F w0 w l) (i : Nat) (hi : l[i]? = some x) (m : M x.foot w w' [y, z]) : M F w0 w' (l.set i y ++ [z]) := by
  have h1 := h.upd i hi m.keep (fun _ h => h) (y := prI y z) ⟨m.get 0 rfl, m.get 1 rfl⟩ (fun k hk => by
    rcases hk with hk | hk
    · have := m.rng 0 _ rfl k hk
      exact this.1.elim (fun h => .inr ⟨h, this.2⟩) .inl
    · have := m.rng 1 _ rfl k hk
      exact this.1.elim (fun h => .inr ⟨h, this.2⟩) .inl)
  have hlt := (List.getElem?_eq_some_iff.1 hi).1
  have hpi : (l.set i (prI y z))[i]? = some (prI y z) := List.getElem?_set_self hlt
  have at_ : ∀ (j : Nat) (u : It), (l.set i y ++ [z])[j]? = some u → (j ≠ i ∧ (l.set i (prI y z))[j]? = some u) ∨ (j = i ∧ u = y) ∨ (j = l.length ∧ u = z) := by
    intro j u hj
    rcases Nat.lt_or_ge j l.length with hl | hg
    · rw [List.getElem?_append_left (by rw [List.length_set]; exact hl)] at hj
      by_cases e : j = i
      · subst e
        rw [List.getElem?_set_self hlt] at hj
        exact .inr (.inl ⟨rfl, (Option.some.inj hj).symm⟩)
      · rw [List.getElem?_set_ne (Ne.symm e)] at hj
        exact .inl ⟨e, by rw [List.getElem?_set_ne (Ne.symm e)]; exact hj⟩
    · rw [List.getElem?_append_right (by rw [List.length_set]; exact hg), List.length_set] at hj
      have h0 := (List.getElem?_eq_some_iff.1 hj).1
      simp at h0
      have e : j = l.length := by omega
      subst e
      simp at hj
      exact .inr (.inr ⟨rfl, hj.symm⟩)
  have hyz : ∀ k, y.foot k → ¬ z.foot k := fun k hy hz => m.dis 0 1 _ _ rfl rfl (by decide) k hy hz
  refine ⟨fun j u hj => ?_, fun j q u v hj hq hjq k hu hv => ?_, fun j u hj k hk => ?_, h1.keep⟩
  · rcases at_ j u hj with ⟨_, h2⟩ | ⟨_, rfl⟩ | ⟨_, rfl⟩
    · exact h1.all j u h2
    · exact m.get 0 rfl
    · exact m.get 1 rfl
  · rcases at_ j u hj with ⟨n1, h2⟩ | ⟨e1, rfl⟩ | ⟨e1, rfl⟩ <;> rcases at_ q v hq with ⟨n2, h3⟩ | ⟨e2, rfl⟩ | ⟨e2, rfl⟩
    · exact h1.dis j q u v h2 h3 hjq k hu hv
    · exact h1.dis j i u _ h2 hpi n1 k hu (.inl hv)
    · exact h1.dis j i u _ h2 hpi n1 k hu (.inr hv)
    · exact h1.dis q i v _ h3 hpi n2 k hv (.inl hu)
    · omega
    · exact hyz k hu hv
    · exact h1.dis q i v _ h3 hpi n2 k hv (.inr hu)
    · exact hyz k hv hu
    · omega
  · rcases at_ j u hj with ⟨_, h2⟩ | ⟨_, rfl⟩ | ⟨_, rfl⟩
    · exact h1.rng j u h2 k hk
    · exact h1.rng i _ hpi k (.inl hk)
    · exact h1.rng i _ hpi k (.inr hk)
theorem withL_len (l : List Wd) (x : Wd) : (IdL.withL l x).length ≤ l.length + 1 := by
  unfold IdL.withL
  split
  · omega
  · rw [List.length_append, List.length_cons, ← Nat.add_assoc, ← List.length_append, List.takeWhile_append_dropWhile]
    exact Nat.le_refl _
theorem stG_len (G : List Wd) (x : Ak) : (stG G x).length ≤ G.length + 1 := by
  unfold stG
  split
  · omega
  · exact withL_len G _
theorem alk_step {X : List Dn} {N : Nds} (h : Alk X N) (x : Ak) : Alk (stX X x) (stN N x) := by
  unfold stX stN
  by_cases hc : isI x ∧ chk x.d.u x.d.x = 0
  · rw [if_pos hc]
    by_cases hn : x.d.u ∉ N.map (·.1)
    · rw [if_pos ⟨hc.1, hc.2, hn⟩]
      exact h.put x.d hn
    · rw [if_neg (fun h' => hn h'.2.2), insD_in ((h.keys _).2 (Classical.byContradiction hn))]
      exact h
  · rw [if_neg hc, if_neg (fun h' => hc ⟨h'.1, h'.2.1⟩)]
    exact h
theorem at_dst {ops : Array Oper} {rest : List Oper} {op : Op} {ty : TypeId} {ps : String} {af} {g} {a : Act} {w : World} {Q : Exit → Act → World → Prop} (d : Tmp) (h : wpList Try.prog ops Q (⟨some d, op, ty, ps, af, g⟩ :: rest) a w) : wpList Try.prog ops Q (⟨some d, op, ty, ps, af, g⟩ :: rest) a w := h
theorem at_callW {P : Program} {f : Nat} {w : World} {Q : Ending → World → Prop} (args : Array Value) (h : Calls P f args w Q) : Calls P f args w Q := h
set_option maxRecDepth 100000 in
set_option maxHeartbeats 16000000 in
theorem walk (s : Opn.Sl AQ) (w : World) (hs : Opn.SlAt 67 layQ (fun _ x => factN x.2.1) w s) :
    Calls Try.prog 3 #[.slice s.a s.len s.cap] w fun e w' => e = .returned (.bool true) ∧ Below w.heap.size w w' := by
  obtain ⟨hA, hL, hlc, hcm⟩ := aks_of hs
  generalize s.els.map qk = L at hA hL
  generalize s.a = a at hA ⊢
  generalize s.len = n at hA hlc ⊢
  generalize s.cap = c at hlc hcm ⊢
  have HA : Hid (St.At 67 qe w a n L) := hA
  have HL : Hid (∀ x ∈ L, x.d.x.v.size ≤ maxLen) := hL
  unfold maxLen at hcm
  have HMu : Hid (Calls Try.prog 11 #[.slice a n c] w (MuPost w n L)) := smuch_any w a n c L hA hL
  have HM : Hid (M (fun _ => False) w w []) := M.start _ w
  clear hs hA hL
  go_enter Try.func3, Try.ntmps3
  go_wp2_with (first | (go_at_call 11; refine HMu.out.mono ?_; rintro e w1 ⟨⟨p, rfl, k1, hp⟩⟩; have HM : Hid _ := HM.out.calm k1; have HP : Hid _ := hp; clear k1 hp; cases p) | (go_at_call 12; refine (awakeS _).mono ?_; rintro e w9 ⟨rfl, k9⟩; have HM : Hid _ := HM.out.calm k9; clear k9) | (go_at_call 13; refine (snew _).mono ?_; rintro e w2 ⟨b, bn, bb, bg, rfl, m2⟩; have HM : Hid (M (fun _ => False) w w2 [sqI b bn bb bg [] [] []]) := widen m2 HM.out.keep (fun j hj => hj.elim); clear m2))
  rotate_left
  · go_ret
    exact ⟨rfl, Keep.below HM.out.keep (Nat.le_refl _) (fun _ h => h.elim)⟩
  obtain ⟨hn30, hv⟩ := HP.out (by trivial)
  have HV : Hid (∀ x ∈ L, x.d.x.v.size ≤ 100) := hv
  clear hv HP HMu
  obtain ⟨bx, hbx⟩ : ∃ bx, w2.heap.size = bx := ⟨_, rfl⟩
  have HM : Hid (M (fun _ => False) w (w2.alloc (xsc (.slice none 0 0) (.slice none 0 0))) [sqI b bn bb bg [] [] [], xsI bx (.slice none 0 0) (.slice none 0 0) [] []]) := M.xsnew HM.out hbx
  rw [hbx]
  clear hbx
  go_loopw [5] (fun i wr => ∃ (k : Nat) (lv gv : Value) (N : Nds) (B : Bhs) (G : List Wd) (X : List Dn) (Gd : List Wd), k ≤ n ∧ i = .int .i64 k ∧ M (fun _ => False) w wr [sqI b bn bb bg N B G, xsI bx lv gv X Gd] ∧ Inv N B ∧ Alk X N ∧ N.length ≤ k ∧ Gd.length ≤ k) (fun i _ => n - (intOf i).toNat)
  case atStart => exact ⟨0, _, _, [], [], [], [], [], Nat.zero_le _, rfl, HM.out, Inv.nil, Alk.nil, Nat.le_refl _, Nat.le_refl _⟩
  case round =>
    clear HM
    obtain ⟨k, lv, gv, N, B, G, X, Gd, hk, rfl, hM, hI, hAl, hNl, hGl⟩ := hrel
    have HM : Hid (M (fun _ => False) w wr [sqI b bn bb bg N B G, xsI bx lv gv X Gd]) := hM
    have HI : Hid (Inv N B) := hI
    have HAl : Hid (Alk X N) := hAl
    have HNl : Hid (N.length ≤ k) := hNl
    have HGl : Hid (Gd.length ≤ k) := hGl
    have HXl : Hid (X.length ≤ k) := by show _ ≤ _; rw [hAl.len]; exact hNl
    clear hM hI hAl hNl hGl
    by_cases hlt : k < n
    · obtain ⟨x, hx⟩ : ∃ x, L[k]? = some x := ⟨_, List.getElem?_eq_getElem (by rw [HA.out.len]; exact hlt)⟩
      obtain ⟨b1, o1, rfl, hb1, hr1⟩ : ∃ b off, a = some ⟨b, off, none⟩ ∧ b < w.heap.size ∧ ∀ i x, L[i]? = some x → w.rangeAt b (off + i * 67) (qe x) := by rcases HA.out.lay with e | e; omega; exact e
      have R0 : Hid (w.rangeAt b1 (o1 + k * 67) (qe x)) := hr1 k x hx
      have Hb1 : Hid (b1 < w.heap.size) := hb1
      have R1 : Hid (wr.rangeAt b1 (o1 + k * 67) (qe x)) := HM.out.keep.range hb1 (fun h => h) (hr1 k x hx)
      have HQl : Hid ((qe x).length = 67) := qe_len x
      have HVx : Hid (x.d.x.v.size ≤ maxLen) := by have := HV.out x (List.mem_of_getElem? hx); show _ ≤ _; unfold maxLen; omega
      clear hr1 hb1 hx
      go_wp2_with (first | ((with_reducible refine at_load 39 ?_); refine St.wl_load tyQ rfl rfl rfl R1.out HQl.out ?_; simp only [Act.put, List.setIfInBounds_toArray, List.set_cons_zero, List.set_cons_succ]) | (go_at_call 14; refine (play_any _ b bn bb bg N B G (HM.out.get 0 rfl) HI.out (by have := HNl.out; omega) x HVx.out).mono ?_; rintro e w3 ⟨rfl, B3, t3, i3⟩; have HI : Hid _ := i3; have HM : Hid _ := M.sto HM.out 0 rfl t3; have R1 : Hid (w3.rangeAt b1 (o1 + k * 67) (qe x)) := HM.out.keep.range Hb1.out (fun h => h) R0.out; clear t3 i3) | (go_at_call 15; refine (told_any _ bx lv gv X Gd (HM.out.get 1 rfl) (by have := HXl.out; omega) (by have := HGl.out; omega) HAl.out.srt x HVx.out).mono ?_; rintro e w4 ⟨rfl, lv4, gv4, t4⟩; have HM : Hid _ := M.xs HM.out 1 rfl t4; clear t4))
      go_roundw
      case rel => exact ⟨k + 1, lv4, gv4, _, B3, _, _, _, by omega, by go_num, HM.out, HI.out, alk_step HAl.out x, Nat.le_trans (stN_len N x) (Nat.add_le_add_right HNl.out 1), Nat.le_trans (stG_len Gd x) (Nat.add_le_add_right HGl.out 1)⟩
      case measure => simp [intOf]; omega
    · obtain rfl : n = k := by omega
      obtain ⟨o, ho⟩ : ∃ o, ordr N B = o := ⟨_, rfl⟩
      have Ho : Hid (ordr N B = o) := ho
      have HOr : Hid (∀ w1, SqAt w1 b bn bb bg N B G → Calls Try.prog 16 #[.pointer (some ⟨b, 0, none⟩)] w1 (OrdPost w1 b bn bb bg N B G o)) := fun w1 h1 => by
        have := order_any w1 b bn bb bg N B G h1 (fun r => Nat.le_trans (HI.out.row_len r) (by have := HNl.out; omega)) N.length HI.out.dep (Nat.le_trans (HI.out.pre_len _) (by have := HNl.out; omega))
        rwa [show pre (rowsB B) (N.length + 1) Zi = o from ho] at this
      clear ho
      go_wp2_with (first | (go_at_call 16; refine (HOr.out _ (HM.out.get 0 rfl)).mono ?_; rintro e w5 ⟨ov, rfl, m5⟩; have HM : Hid (M (fun _ => False) w w5 [sqI b bn bb bg N B G, xsI bx lv gv X Gd, ids ov o]) := M.two HM.out 0 rfl m5; clear m5))
      clear HOr
      have HXs : Hid (XsAt w5 bx lv gv X Gd) := HM.out.get 1 rfl
      obtain ⟨la, lc, e6, hrow⟩ := HXs.out.row
      subst e6
      obtain ⟨oa, oc, e5, hat, _⟩ := (show Ids.Own w5 ov o from HM.out.get 2 rfl).at
      subst e5
      have HKe : Hid (Keep (fun _ => False) w w5) := HM.out.keep
      obtain ⟨m, hm⟩ : ∃ m, X.length = m := ⟨_, rfl⟩
      obtain ⟨q, hq⟩ : ∃ q, o.length = q := ⟨_, rfl⟩
      have Hm : Hid (X.length = m) := hm
      have Hq : Hid (o.length = q) := hq
      have hqm : q ≤ m := by rw [← hq, ← hm, HAl.out.len, ← Ho.out]; exact HI.out.pre_len _
      have hm30 : m ≤ 30 := by rw [← hm]; have := HXl.out; omega
      have HSl : Hid ((IdL.setL o).length = q) := by
        show _ = _
        rw [IdL.nodup_len (IdL.setL o) o (IdL.srt_nodup (IdL.setL_srt o)) (by rw [← Ho.out]; exact HI.out.ord_nodup) (IdL.mem_setL o), hq]
      have HBe : Hid (∀ d ∈ X, (plc o d.u < 0 → d.x.r ≠ Zi ∧ plc o d.x.r < 0) ∧ (0 ≤ plc o d.u → d.x.r ≠ Zi → 0 ≤ plc o d.x.r ∧ plc o d.x.r < plc o d.u) ∧ (0 ≤ plc o d.u → ∀ m ∈ X, m.x.r = d.x.r → ah m.x.h m.u d.x.h d.u = true → plc o d.u ≤ plc o m.u)) := fun d hd => by
        have := behind_law HI.out HAl.out hd
        rwa [Ho.out] at this
      rw [hm] at HM hrow HXs
      rw [hq] at HM hat
      have HRow : Hid (St.At 66 de w5 la m X) := hrow
      have HOa : Hid (At w5 oa q o) := hat
      rw [hq]
      clear hm hq hrow hat HM HI HAl
      go_loopw [7] (fun i wr => ∃ (k : Nat), k ≤ m ∧ i = .int .i64 k ∧ Keep (fun _ => False) w5 wr) (fun i _ => m - (intOf i).toNat)
      case atStart => exact ⟨0, Nat.zero_le _, rfl, Keep.refl _ _⟩
      case round =>
        obtain ⟨wo, rfl⟩ : ∃ x, x = wr := ⟨wr, rfl⟩
        obtain ⟨k, hk, rfl, hK⟩ := hrel
        have KW : Hid (Keep (fun _ => False) w5 wo) := hK
        clear hK
        have c0 := (HXs.out.calm KW.out).cells.1
        by_cases hlt : k < m
        · obtain ⟨y, hy⟩ : ∃ y, X[k]? = some y := ⟨_, List.getElem?_eq_getElem (by rw [Hm.out]; exact hlt)⟩
          obtain ⟨g0, o0, e0, hb0, hr0⟩ := HRow.out.lay.resolve_left (by omega)
          subst e0
          have Hb0 : Hid (g0 < w5.heap.size) := hb0
          have Hr0 : Hid (∀ i x, X[i]? = some x → w5.rangeAt g0 (o0 + i * 66) (de x)) := hr0
          have Ry : Hid (wo.rangeAt g0 (o0 + k * 66) (de y)) := KW.out.range hb0 (fun h => h) (hr0 k y hy)
          have HDl : Hid ((de y).length = 66) := de_len y
          have HDs : Hid ((de y).toArray.size = 66) := by show _ = _; rw [List.size_toArray]; exact de_len y
          have HD1 : Hid ((de y).toArray.all (·.oneCell') = true) := encD.all y
          have HYu : Hid (y.u.length = 32) := y.hu
          have HYr : Hid (y.x.r.length = 32) := y.x.hr
          have HBy := HBe.out y (List.mem_of_getElem? hy)
          obtain ⟨p, hp⟩ : ∃ p, plc o y.u = p := ⟨_, rfl⟩
          obtain ⟨p2, hp2⟩ : ∃ p2, plc o y.x.r = p2 := ⟨_, rfl⟩
          rw [hp, hp2] at HBy
          obtain ⟨h1, h2, h3⟩ := HBy
          have H3 : Hid (0 ≤ p → ∀ m ∈ X, m.x.r = y.x.r → ah m.x.h m.u y.x.h y.u = true → p ≤ plc o m.u) := h3
          have HPu : Hid (∀ w1, Keep (fun _ => False) w5 w1 → Calls Try.prog 17 #[.slice oa q oc, idv y.u] w1 fun e w' => e = .returned (.int .i64 p) ∧ Keep (fun _ => False) w1 w') := fun w1 k1 => by
            have := place_any w1 oa q oc o (HOa.out.calm k1) (by omega) y.u y.hu
            rwa [hp] at this
          have HPr : Hid (∀ w1, Keep (fun _ => False) w5 w1 → Calls Try.prog 17 #[.slice oa q oc, idv y.x.r] w1 fun e w' => e = .returned (.int .i64 p2) ∧ Keep (fun _ => False) w1 w') := fun w1 k1 => by
            have := place_any w1 oa q oc o (HOa.out.calm k1) (by omega) y.x.r y.x.hr
            rwa [hp2] at this
          have HN : Hid (M (fun _ => False) wo _ [blk wo.heap.size (.cells (de y).toArray 37)]) := (M.start _ wo).alloc (.cells (de y).toArray 37) rfl
          have RU : Hid _ := rng_u (HN.out.range 0 rfl)
          have RR : Hid _ := rng_r (HN.out.range 0 rfl)
          have d32 := rng_h (HN.out.range 0 rfl)
          simp only [Nat.zero_add] at RR d32
          have hz : ∀ w, Sem.run Try.prog (binOp .eql 35 (idv y.x.r) (.agg z32)) w = .ok (.bool (y.x.r == Zi)) w := fun w => eql_id w y.x.r Zi y.x.hr rfl
          have hz2 : ∀ w, Sem.run Try.prog (binOp .neq 35 (idv y.x.r) (.agg z32)) w = .ok (.bool (!(y.x.r == Zi))) w := fun w => neq_id w y.x.r Zi y.x.hr rfl
          have KN : Hid (Keep (fun _ => False) w5 (wo.alloc (.cells (de y).toArray 37))) := KW.out.alloc _
          clear hr0 hb0 hy hp hp2 h3
          by_cases hp0 : p < 0
          · obtain ⟨hr1, hr2⟩ := h1 hp0
            have hrz : (y.x.r == Zi) = false := by simpa using hr1
            rw [hrz] at hz hz2
            clear h1 h2 hrz hr1
            have hp1 : ¬ 0 ≤ p := by omega
            have hr3 : ¬ 0 ≤ p2 := by omega
            go_wp2_with (first | ((with_reducible refine at_load 37 ?_); refine St.wl_load tyD rfl rfl rfl Ry.out HDl.out ?_; simp only [Act.put, List.setIfInBounds_toArray, List.set_cons_zero, List.set_cons_succ]) | ((with_reducible refine at_alloc 37 ?_); refine St.wl_alloc tyD rfl rfl (by (try simp only [World.size_alloc]); rfl) ?_; simp only [Act.put, List.setIfInBounds_toArray, List.set_cons_zero, List.set_cons_succ]) | ((with_reducible refine at_store 37 ?_); refine St.wl_storeN (W := wo) tyD rfl rfl rfl rfl rfl (by (try simp only [World.size_alloc])) (show _ = Value.agg (de y).toArray from rfl) HDs.out rfl HD1.out ?_) | ((with_reducible refine at_dst 56 ?_); refine wl_loadG (b := wo.heap.size) (o := 0) (by rfl) rfl rfl HYu.out RU.out ?_; simp only [Act.put, List.setIfInBounds_toArray, List.set_cons_zero, List.set_cons_succ]) | ((first | (with_reducible refine at_dst 62 ?_) | (with_reducible refine at_dst 68 ?_) | (with_reducible refine at_dst 9999 ?_)); refine wl_loadG (b := wo.heap.size) (o := 33) (by rfl) rfl rfl HYr.out RR.out ?_; simp only [Act.put, List.setIfInBounds_toArray, List.set_cons_zero, List.set_cons_succ]) | ((with_reducible refine at_dst 63 ?_); refine wl_buildZ (by rfl) rfl ?_; simp only [Act.put, List.setIfInBounds_toArray, List.set_cons_zero, List.set_cons_succ]) | (go_at_call 17; (first | ((with_reducible refine at_callW #[.slice oa q oc, idv y.u] ?_); refine (HPu.out _ KN.out).mono ?_) | ((with_reducible refine at_callW #[.slice oa q oc, idv y.x.r] ?_); refine (HPr.out _ KN.out).mono ?_)); rintro e w6 ⟨rfl, k6⟩; have HN : Hid _ := HN.out.calm k6; have KN : Hid _ := KN.out.trans k6; have RU : Hid _ := rng_u (HN.out.range 0 rfl); have RR : Hid _ := rng_r (HN.out.range 0 rfl); simp only [Nat.zero_add] at RR; clear k6; skip))
            clear c0
            go_loopw [10] (fun i wq => ∃ (j : Nat), j ≤ m ∧ i = .int .i64 j ∧ M (fun _ => False) wo wq [blk wo.heap.size (.cells (de y).toArray 37)] ∧ Keep (fun _ => False) w5 wq) (fun i _ => m - (intOf i).toNat)
            case atStart => exact ⟨0, Nat.zero_le _, rfl, HN.out, KN.out⟩
            clear HN KN RU RR d32 hz hz2
            obtain ⟨j, hj, rfl, hN, hK⟩ := hrel
            have HN : Hid (M (fun _ => False) wo wr [blk wo.heap.size (.cells (de y).toArray 37)]) := hN
            have KN : Hid (Keep (fun _ => False) w5 wr) := hK
            clear hN hK
            have c0 := (HXs.out.calm KN.out).cells.1
            by_cases hlt2 : j < m
            · skip
              obtain ⟨z, hz3⟩ : ∃ z, X[j]? = some z := ⟨_, List.getElem?_eq_getElem (by rw [Hm.out]; exact hlt2)⟩
              have Rz : Hid (wr.rangeAt g0 (o0 + j * 66) (de z)) := KN.out.range Hb0.out (fun h => h) (Hr0.out j z hz3)
              have HZl : Hid ((de z).length = 66) := de_len z
              have HZs : Hid ((de z).toArray.size = 66) := by show _ = _; rw [List.size_toArray]; exact de_len z
              have HZ1 : Hid ((de z).toArray.all (·.oneCell') = true) := encD.all z
              have HZu : Hid (z.u.length = 32) := z.hu
              have HZr : Hid (z.x.r.length = 32) := z.x.hr
              have HN : Hid (M (fun _ => False) wo _ [blk wo.heap.size (.cells (de y).toArray 37), blk wr.heap.size (.cells (de z).toArray 37)]) := HN.out.alloc (.cells (de z).toArray 37) rfl
              have KN : Hid (Keep (fun _ => False) w5 (wr.alloc (.cells (de z).toArray 37))) := KN.out.alloc _
              have RU : Hid _ := rng_u (HN.out.range 0 rfl)
              have RR : Hid _ := rng_r (HN.out.range 0 rfl)
              have d32 := rng_h (HN.out.range 0 rfl)
              have ZU : Hid _ := rng_u (HN.out.range 1 rfl)
              have ZR : Hid _ := rng_r (HN.out.range 1 rfl)
              have e32 := rng_h (HN.out.range 1 rfl)
              simp only [Nat.zero_add] at RR ZR d32 e32
              obtain ⟨r1, hr1⟩ : ∃ r, (z.x.r == y.x.r) = r := ⟨_, rfl⟩
              obtain ⟨r2, hr2⟩ : ∃ r, ah z.x.h z.u y.x.h y.u = r := ⟨_, rfl⟩
              obtain ⟨p3, hp3⟩ : ∃ p, plc o z.u = p := ⟨_, rfl⟩
              have hz : ∀ w, Sem.run Try.prog (binOp .eql 35 (idv z.x.r) (idv y.x.r)) w = .ok (.bool r1) w := fun w => by
                have := eql_id w z.x.r y.x.r z.x.hr y.x.hr
                rwa [hr1] at this
              have HAh : Hid (∀ w, Calls Try.prog 18 #[.int .i64 z.x.h, idv z.u, .int .i64 y.x.h, idv y.u] w fun e w' => e = .returned (.bool r2) ∧ Keep (fun _ => False) w w') := fun w => xahead_any w z.x.h y.x.h z.u y.u z.hu y.hu r2 hr2
              have HPz : Hid (∀ w1, Keep (fun _ => False) w5 w1 → Calls Try.prog 17 #[.slice oa q oc, idv z.u] w1 fun e w' => e = .returned (.int .i64 p3) ∧ Keep (fun _ => False) w1 w') := fun w1 k1 => by
                have := place_any w1 oa q oc o (HOa.out.calm k1) (by omega) z.u z.hu
                rwa [hp3] at this
              have HE : Hid (0 ≤ p → r1 = true → r2 = true → p ≤ p3) := fun h1 h2 h3 => by
                rw [← hp3]
                exact H3.out h1 z (List.mem_of_getElem? hz3) (by rw [h2] at hr1; simpa using hr1) (by rw [hr2, h3])
              clear hr1 hr2 hp3 hz3
              clear HE
              go_wp2_with (first | ((with_reducible refine at_load 37 ?_); refine St.wl_load tyD rfl rfl rfl Rz.out HZl.out ?_; simp only [Act.put, List.setIfInBounds_toArray, List.set_cons_zero, List.set_cons_succ]) | ((with_reducible refine at_alloc 37 ?_); refine St.wl_alloc tyD rfl rfl (by (try simp only [World.size_alloc]); rfl) ?_; simp only [Act.put, List.setIfInBounds_toArray, List.set_cons_zero, List.set_cons_succ]) | ((with_reducible refine at_store 37 ?_); refine St.wl_storeN (W := wr) tyD rfl rfl rfl rfl rfl (by (try simp only [World.size_alloc])) (show _ = Value.agg (de z).toArray from rfl) HZs.out rfl HZ1.out ?_) | ((with_reducible refine at_dst 9999 ?_); refine wl_loadG (b := wr.heap.size) (o := 33) (by rfl) rfl rfl HZr.out ZR.out ?_; simp only [Act.put, List.setIfInBounds_toArray, List.set_cons_zero, List.set_cons_succ]) | ((with_reducible refine at_dst 9999 ?_); refine wl_loadG (b := wo.heap.size) (o := 33) (by rfl) rfl rfl HYr.out RR.out ?_; simp only [Act.put, List.setIfInBounds_toArray, List.set_cons_zero, List.set_cons_succ]) | ((first | (with_reducible refine at_dst 9999 ?_) | (with_reducible refine at_dst 9999 ?_)); refine wl_loadG (b := wr.heap.size) (o := 0) (by rfl) rfl rfl HZu.out ZU.out ?_; simp only [Act.put, List.setIfInBounds_toArray, List.set_cons_zero, List.set_cons_succ]) | ((with_reducible refine at_dst 9999 ?_); refine wl_loadG (b := wo.heap.size) (o := 0) (by rfl) rfl rfl HYu.out RU.out ?_; simp only [Act.put, List.setIfInBounds_toArray, List.set_cons_zero, List.set_cons_succ]) | (go_at_call 18; refine (HAh.out _).mono ?_; rintro e w6 ⟨rfl, k6⟩; have HN : Hid _ := HN.out.calm k6; have KN : Hid _ := KN.out.trans k6; have ZU : Hid _ := rng_u (HN.out.range 1 rfl); clear k6) | (go_at_call 17; refine (HPz.out _ KN.out).mono ?_; rintro e w6 ⟨rfl, k6⟩; have HN : Hid _ := HN.out.calm k6; have KN : Hid _ := KN.out.trans k6; clear k6))
              go_roundw
              case rel => exact ⟨j + 1, by omega, by go_num, HN.out.take 1, KN.out⟩
              case measure => simp [intOf]; omega
            · skip
              obtain rfl : m = j := by omega
              go_wp2
              go_roundw
              case rel => exact ⟨k + 1, by omega, by go_num, KN.out⟩
              case measure => simp [intOf]; omega
          · by_cases hrz : y.x.r = Zi
            · have hrz' : (y.x.r == Zi) = true := by simpa using hrz
              rw [hrz'] at hz hz2
              clear h1 h2 hrz hrz'
              have hp1 : 0 ≤ p := by omega
              go_wp2_with (first | ((with_reducible refine at_load 37 ?_); refine St.wl_load tyD rfl rfl rfl Ry.out HDl.out ?_; simp only [Act.put, List.setIfInBounds_toArray, List.set_cons_zero, List.set_cons_succ]) | ((with_reducible refine at_alloc 37 ?_); refine St.wl_alloc tyD rfl rfl (by (try simp only [World.size_alloc]); rfl) ?_; simp only [Act.put, List.setIfInBounds_toArray, List.set_cons_zero, List.set_cons_succ]) | ((with_reducible refine at_store 37 ?_); refine St.wl_storeN (W := wo) tyD rfl rfl rfl rfl rfl (by (try simp only [World.size_alloc])) (show _ = Value.agg (de y).toArray from rfl) HDs.out rfl HD1.out ?_) | ((with_reducible refine at_dst 56 ?_); refine wl_loadG (b := wo.heap.size) (o := 0) (by rfl) rfl rfl HYu.out RU.out ?_; simp only [Act.put, List.setIfInBounds_toArray, List.set_cons_zero, List.set_cons_succ]) | ((first | (with_reducible refine at_dst 78 ?_) | (with_reducible refine at_dst 9999 ?_) | (with_reducible refine at_dst 9999 ?_)); refine wl_loadG (b := wo.heap.size) (o := 33) (by rfl) rfl rfl HYr.out RR.out ?_; simp only [Act.put, List.setIfInBounds_toArray, List.set_cons_zero, List.set_cons_succ]) | ((with_reducible refine at_dst 79 ?_); refine wl_buildZ (by rfl) rfl ?_; simp only [Act.put, List.setIfInBounds_toArray, List.set_cons_zero, List.set_cons_succ]) | (go_at_call 17; (first | ((with_reducible refine at_callW #[.slice oa q oc, idv y.u] ?_); refine (HPu.out _ KN.out).mono ?_) | ((with_reducible refine at_callW #[.slice oa q oc, idv y.x.r] ?_); refine (HPr.out _ KN.out).mono ?_)); rintro e w6 ⟨rfl, k6⟩; have HN : Hid _ := HN.out.calm k6; have KN : Hid _ := KN.out.trans k6; have RU : Hid _ := rng_u (HN.out.range 0 rfl); have RR : Hid _ := rng_r (HN.out.range 0 rfl); simp only [Nat.zero_add] at RR; clear k6; skip))
              clear c0
              go_loopw [10] (fun i wq => ∃ (j : Nat), j ≤ m ∧ i = .int .i64 j ∧ M (fun _ => False) wo wq [blk wo.heap.size (.cells (de y).toArray 37)] ∧ Keep (fun _ => False) w5 wq) (fun i _ => m - (intOf i).toNat)
              case atStart => exact ⟨0, Nat.zero_le _, rfl, HN.out, KN.out⟩
              clear HN KN RU RR d32 hz hz2
              obtain ⟨j, hj, rfl, hN, hK⟩ := hrel
              have HN : Hid (M (fun _ => False) wo wr [blk wo.heap.size (.cells (de y).toArray 37)]) := hN
              have KN : Hid (Keep (fun _ => False) w5 wr) := hK
              clear hN hK
              have c0 := (HXs.out.calm KN.out).cells.1
              by_cases hlt2 : j < m
              · skip
                obtain ⟨z, hz3⟩ : ∃ z, X[j]? = some z := ⟨_, List.getElem?_eq_getElem (by rw [Hm.out]; exact hlt2)⟩
                have Rz : Hid (wr.rangeAt g0 (o0 + j * 66) (de z)) := KN.out.range Hb0.out (fun h => h) (Hr0.out j z hz3)
                have HZl : Hid ((de z).length = 66) := de_len z
                have HZs : Hid ((de z).toArray.size = 66) := by show _ = _; rw [List.size_toArray]; exact de_len z
                have HZ1 : Hid ((de z).toArray.all (·.oneCell') = true) := encD.all z
                have HZu : Hid (z.u.length = 32) := z.hu
                have HZr : Hid (z.x.r.length = 32) := z.x.hr
                have HN : Hid (M (fun _ => False) wo _ [blk wo.heap.size (.cells (de y).toArray 37), blk wr.heap.size (.cells (de z).toArray 37)]) := HN.out.alloc (.cells (de z).toArray 37) rfl
                have KN : Hid (Keep (fun _ => False) w5 (wr.alloc (.cells (de z).toArray 37))) := KN.out.alloc _
                have RU : Hid _ := rng_u (HN.out.range 0 rfl)
                have RR : Hid _ := rng_r (HN.out.range 0 rfl)
                have d32 := rng_h (HN.out.range 0 rfl)
                have ZU : Hid _ := rng_u (HN.out.range 1 rfl)
                have ZR : Hid _ := rng_r (HN.out.range 1 rfl)
                have e32 := rng_h (HN.out.range 1 rfl)
                simp only [Nat.zero_add] at RR ZR d32 e32
                obtain ⟨r1, hr1⟩ : ∃ r, (z.x.r == y.x.r) = r := ⟨_, rfl⟩
                obtain ⟨r2, hr2⟩ : ∃ r, ah z.x.h z.u y.x.h y.u = r := ⟨_, rfl⟩
                obtain ⟨p3, hp3⟩ : ∃ p, plc o z.u = p := ⟨_, rfl⟩
                have hz : ∀ w, Sem.run Try.prog (binOp .eql 35 (idv z.x.r) (idv y.x.r)) w = .ok (.bool r1) w := fun w => by
                  have := eql_id w z.x.r y.x.r z.x.hr y.x.hr
                  rwa [hr1] at this
                have HAh : Hid (∀ w, Calls Try.prog 18 #[.int .i64 z.x.h, idv z.u, .int .i64 y.x.h, idv y.u] w fun e w' => e = .returned (.bool r2) ∧ Keep (fun _ => False) w w') := fun w => xahead_any w z.x.h y.x.h z.u y.u z.hu y.hu r2 hr2
                have HPz : Hid (∀ w1, Keep (fun _ => False) w5 w1 → Calls Try.prog 17 #[.slice oa q oc, idv z.u] w1 fun e w' => e = .returned (.int .i64 p3) ∧ Keep (fun _ => False) w1 w') := fun w1 k1 => by
                  have := place_any w1 oa q oc o (HOa.out.calm k1) (by omega) z.u z.hu
                  rwa [hp3] at this
                have HE : Hid (0 ≤ p → r1 = true → r2 = true → p ≤ p3) := fun h1 h2 h3 => by
                  rw [← hp3]
                  exact H3.out h1 z (List.mem_of_getElem? hz3) (by rw [h2] at hr1; simpa using hr1) (by rw [hr2, h3])
                clear hr1 hr2 hp3 hz3
                cases r1 with
                | false =>
                  clear HE
                  go_wp2_with (first | ((with_reducible refine at_load 37 ?_); refine St.wl_load tyD rfl rfl rfl Rz.out HZl.out ?_; simp only [Act.put, List.setIfInBounds_toArray, List.set_cons_zero, List.set_cons_succ]) | ((with_reducible refine at_alloc 37 ?_); refine St.wl_alloc tyD rfl rfl (by (try simp only [World.size_alloc]); rfl) ?_; simp only [Act.put, List.setIfInBounds_toArray, List.set_cons_zero, List.set_cons_succ]) | ((with_reducible refine at_store 37 ?_); refine St.wl_storeN (W := wr) tyD rfl rfl rfl rfl rfl (by (try simp only [World.size_alloc])) (show _ = Value.agg (de z).toArray from rfl) HZs.out rfl HZ1.out ?_) | ((with_reducible refine at_dst 118 ?_); refine wl_loadG (b := wr.heap.size) (o := 33) (by rfl) rfl rfl HZr.out ZR.out ?_; simp only [Act.put, List.setIfInBounds_toArray, List.set_cons_zero, List.set_cons_succ]) | ((with_reducible refine at_dst 120 ?_); refine wl_loadG (b := wo.heap.size) (o := 33) (by rfl) rfl rfl HYr.out RR.out ?_; simp only [Act.put, List.setIfInBounds_toArray, List.set_cons_zero, List.set_cons_succ]) | ((first | (with_reducible refine at_dst 9999 ?_) | (with_reducible refine at_dst 9999 ?_)); refine wl_loadG (b := wr.heap.size) (o := 0) (by rfl) rfl rfl HZu.out ZU.out ?_; simp only [Act.put, List.setIfInBounds_toArray, List.set_cons_zero, List.set_cons_succ]) | ((with_reducible refine at_dst 9999 ?_); refine wl_loadG (b := wo.heap.size) (o := 0) (by rfl) rfl rfl HYu.out RU.out ?_; simp only [Act.put, List.setIfInBounds_toArray, List.set_cons_zero, List.set_cons_succ]) | (go_at_call 18; refine (HAh.out _).mono ?_; rintro e w6 ⟨rfl, k6⟩; have HN : Hid _ := HN.out.calm k6; have KN : Hid _ := KN.out.trans k6; have ZU : Hid _ := rng_u (HN.out.range 1 rfl); clear k6) | (go_at_call 17; refine (HPz.out _ KN.out).mono ?_; rintro e w6 ⟨rfl, k6⟩; have HN : Hid _ := HN.out.calm k6; have KN : Hid _ := KN.out.trans k6; clear k6))
                  go_roundw
                  case rel => exact ⟨j + 1, by omega, by go_num, HN.out.take 1, KN.out⟩
                  case measure => simp [intOf]; omega
                | true =>
                  cases r2 with
                  | false =>
                    clear HE
                    go_wp2_with (first | ((with_reducible refine at_load 37 ?_); refine St.wl_load tyD rfl rfl rfl Rz.out HZl.out ?_; simp only [Act.put, List.setIfInBounds_toArray, List.set_cons_zero, List.set_cons_succ]) | ((with_reducible refine at_alloc 37 ?_); refine St.wl_alloc tyD rfl rfl (by (try simp only [World.size_alloc]); rfl) ?_; simp only [Act.put, List.setIfInBounds_toArray, List.set_cons_zero, List.set_cons_succ]) | ((with_reducible refine at_store 37 ?_); refine St.wl_storeN (W := wr) tyD rfl rfl rfl rfl rfl (by (try simp only [World.size_alloc])) (show _ = Value.agg (de z).toArray from rfl) HZs.out rfl HZ1.out ?_) | ((with_reducible refine at_dst 118 ?_); refine wl_loadG (b := wr.heap.size) (o := 33) (by rfl) rfl rfl HZr.out ZR.out ?_; simp only [Act.put, List.setIfInBounds_toArray, List.set_cons_zero, List.set_cons_succ]) | ((with_reducible refine at_dst 120 ?_); refine wl_loadG (b := wo.heap.size) (o := 33) (by rfl) rfl rfl HYr.out RR.out ?_; simp only [Act.put, List.setIfInBounds_toArray, List.set_cons_zero, List.set_cons_succ]) | ((first | (with_reducible refine at_dst 127 ?_) | (with_reducible refine at_dst 9999 ?_)); refine wl_loadG (b := wr.heap.size) (o := 0) (by rfl) rfl rfl HZu.out ZU.out ?_; simp only [Act.put, List.setIfInBounds_toArray, List.set_cons_zero, List.set_cons_succ]) | ((with_reducible refine at_dst 131 ?_); refine wl_loadG (b := wo.heap.size) (o := 0) (by rfl) rfl rfl HYu.out RU.out ?_; simp only [Act.put, List.setIfInBounds_toArray, List.set_cons_zero, List.set_cons_succ]) | (go_at_call 18; refine (HAh.out _).mono ?_; rintro e w6 ⟨rfl, k6⟩; have HN : Hid _ := HN.out.calm k6; have KN : Hid _ := KN.out.trans k6; have ZU : Hid _ := rng_u (HN.out.range 1 rfl); clear k6) | (go_at_call 17; refine (HPz.out _ KN.out).mono ?_; rintro e w6 ⟨rfl, k6⟩; have HN : Hid _ := HN.out.calm k6; have KN : Hid _ := KN.out.trans k6; clear k6))
                    go_roundw
                    case rel => exact ⟨j + 1, by omega, by go_num, HN.out.take 1, KN.out⟩
                    case measure => simp [intOf]; omega
                  | true =>
                    have hp4 := HE.out hp1 rfl rfl
                    have hp5 : ¬ p3 < p := by omega
                    clear HE hp4
                    go_wp2_with (first | ((with_reducible refine at_load 37 ?_); refine St.wl_load tyD rfl rfl rfl Rz.out HZl.out ?_; simp only [Act.put, List.setIfInBounds_toArray, List.set_cons_zero, List.set_cons_succ]) | ((with_reducible refine at_alloc 37 ?_); refine St.wl_alloc tyD rfl rfl (by (try simp only [World.size_alloc]); rfl) ?_; simp only [Act.put, List.setIfInBounds_toArray, List.set_cons_zero, List.set_cons_succ]) | ((with_reducible refine at_store 37 ?_); refine St.wl_storeN (W := wr) tyD rfl rfl rfl rfl rfl (by (try simp only [World.size_alloc])) (show _ = Value.agg (de z).toArray from rfl) HZs.out rfl HZ1.out ?_) | ((with_reducible refine at_dst 118 ?_); refine wl_loadG (b := wr.heap.size) (o := 33) (by rfl) rfl rfl HZr.out ZR.out ?_; simp only [Act.put, List.setIfInBounds_toArray, List.set_cons_zero, List.set_cons_succ]) | ((with_reducible refine at_dst 120 ?_); refine wl_loadG (b := wo.heap.size) (o := 33) (by rfl) rfl rfl HYr.out RR.out ?_; simp only [Act.put, List.setIfInBounds_toArray, List.set_cons_zero, List.set_cons_succ]) | ((first | (with_reducible refine at_dst 127 ?_) | (with_reducible refine at_dst 137 ?_)); refine wl_loadG (b := wr.heap.size) (o := 0) (by rfl) rfl rfl HZu.out ZU.out ?_; simp only [Act.put, List.setIfInBounds_toArray, List.set_cons_zero, List.set_cons_succ]) | ((with_reducible refine at_dst 131 ?_); refine wl_loadG (b := wo.heap.size) (o := 0) (by rfl) rfl rfl HYu.out RU.out ?_; simp only [Act.put, List.setIfInBounds_toArray, List.set_cons_zero, List.set_cons_succ]) | (go_at_call 18; refine (HAh.out _).mono ?_; rintro e w6 ⟨rfl, k6⟩; have HN : Hid _ := HN.out.calm k6; have KN : Hid _ := KN.out.trans k6; have ZU : Hid _ := rng_u (HN.out.range 1 rfl); clear k6) | (go_at_call 17; refine (HPz.out _ KN.out).mono ?_; rintro e w6 ⟨rfl, k6⟩; have HN : Hid _ := HN.out.calm k6; have KN : Hid _ := KN.out.trans k6; clear k6))
                    go_roundw
                    case rel => exact ⟨j + 1, by omega, by go_num, HN.out.take 1, KN.out⟩
                    case measure => simp [intOf]; omega
              · skip
                obtain rfl : m = j := by omega
                go_wp2
                go_roundw
                case rel => exact ⟨k + 1, by omega, by go_num, KN.out⟩
                case measure => simp [intOf]; omega
            · obtain ⟨hr1, hr2⟩ := h2 (by omega) hrz
              have hrz' : (y.x.r == Zi) = false := by simpa using hrz
              rw [hrz'] at hz hz2
              clear h1 h2 hrz hrz'
              have hp1 : 0 ≤ p := by omega
              obtain ⟨a2, rfl⟩ : ∃ a : Nat, p2 = (a : Int) := ⟨p2.toNat, by omega⟩
              clear hr1
              go_wp2_with (first | ((with_reducible refine at_load 37 ?_); refine St.wl_load tyD rfl rfl rfl Ry.out HDl.out ?_; simp only [Act.put, List.setIfInBounds_toArray, List.set_cons_zero, List.set_cons_succ]) | ((with_reducible refine at_alloc 37 ?_); refine St.wl_alloc tyD rfl rfl (by (try simp only [World.size_alloc]); rfl) ?_; simp only [Act.put, List.setIfInBounds_toArray, List.set_cons_zero, List.set_cons_succ]) | ((with_reducible refine at_store 37 ?_); refine St.wl_storeN (W := wo) tyD rfl rfl rfl rfl rfl (by (try simp only [World.size_alloc])) (show _ = Value.agg (de y).toArray from rfl) HDs.out rfl HD1.out ?_) | ((with_reducible refine at_dst 56 ?_); refine wl_loadG (b := wo.heap.size) (o := 0) (by rfl) rfl rfl HYu.out RU.out ?_; simp only [Act.put, List.setIfInBounds_toArray, List.set_cons_zero, List.set_cons_succ]) | ((first | (with_reducible refine at_dst 78 ?_) | (with_reducible refine at_dst 85 ?_) | (with_reducible refine at_dst 91 ?_)); refine wl_loadG (b := wo.heap.size) (o := 33) (by rfl) rfl rfl HYr.out RR.out ?_; simp only [Act.put, List.setIfInBounds_toArray, List.set_cons_zero, List.set_cons_succ]) | ((with_reducible refine at_dst 79 ?_); refine wl_buildZ (by rfl) rfl ?_; simp only [Act.put, List.setIfInBounds_toArray, List.set_cons_zero, List.set_cons_succ]) | (go_at_call 17; (first | ((with_reducible refine at_callW #[.slice oa q oc, idv y.u] ?_); refine (HPu.out _ KN.out).mono ?_) | ((with_reducible refine at_callW #[.slice oa q oc, idv y.x.r] ?_); refine (HPr.out _ KN.out).mono ?_)); rintro e w6 ⟨rfl, k6⟩; have HN : Hid _ := HN.out.calm k6; have KN : Hid _ := KN.out.trans k6; have RU : Hid _ := rng_u (HN.out.range 0 rfl); have RR : Hid _ := rng_r (HN.out.range 0 rfl); simp only [Nat.zero_add] at RR; clear k6; skip))
              clear c0
              go_loopw [10] (fun i wq => ∃ (j : Nat), j ≤ m ∧ i = .int .i64 j ∧ M (fun _ => False) wo wq [blk wo.heap.size (.cells (de y).toArray 37)] ∧ Keep (fun _ => False) w5 wq) (fun i _ => m - (intOf i).toNat)
              case atStart => exact ⟨0, Nat.zero_le _, rfl, HN.out, KN.out⟩
              clear HN KN RU RR d32 hz hz2
              obtain ⟨j, hj, rfl, hN, hK⟩ := hrel
              have HN : Hid (M (fun _ => False) wo wr [blk wo.heap.size (.cells (de y).toArray 37)]) := hN
              have KN : Hid (Keep (fun _ => False) w5 wr) := hK
              clear hN hK
              have c0 := (HXs.out.calm KN.out).cells.1
              by_cases hlt2 : j < m
              · skip
                obtain ⟨z, hz3⟩ : ∃ z, X[j]? = some z := ⟨_, List.getElem?_eq_getElem (by rw [Hm.out]; exact hlt2)⟩
                have Rz : Hid (wr.rangeAt g0 (o0 + j * 66) (de z)) := KN.out.range Hb0.out (fun h => h) (Hr0.out j z hz3)
                have HZl : Hid ((de z).length = 66) := de_len z
                have HZs : Hid ((de z).toArray.size = 66) := by show _ = _; rw [List.size_toArray]; exact de_len z
                have HZ1 : Hid ((de z).toArray.all (·.oneCell') = true) := encD.all z
                have HZu : Hid (z.u.length = 32) := z.hu
                have HZr : Hid (z.x.r.length = 32) := z.x.hr
                have HN : Hid (M (fun _ => False) wo _ [blk wo.heap.size (.cells (de y).toArray 37), blk wr.heap.size (.cells (de z).toArray 37)]) := HN.out.alloc (.cells (de z).toArray 37) rfl
                have KN : Hid (Keep (fun _ => False) w5 (wr.alloc (.cells (de z).toArray 37))) := KN.out.alloc _
                have RU : Hid _ := rng_u (HN.out.range 0 rfl)
                have RR : Hid _ := rng_r (HN.out.range 0 rfl)
                have d32 := rng_h (HN.out.range 0 rfl)
                have ZU : Hid _ := rng_u (HN.out.range 1 rfl)
                have ZR : Hid _ := rng_r (HN.out.range 1 rfl)
                have e32 := rng_h (HN.out.range 1 rfl)
                simp only [Nat.zero_add] at RR ZR d32 e32
                obtain ⟨r1, hr1⟩ : ∃ r, (z.x.r == y.x.r) = r := ⟨_, rfl⟩
                obtain ⟨r2, hr2⟩ : ∃ r, ah z.x.h z.u y.x.h y.u = r := ⟨_, rfl⟩
                obtain ⟨p3, hp3⟩ : ∃ p, plc o z.u = p := ⟨_, rfl⟩
                have hz : ∀ w, Sem.run Try.prog (binOp .eql 35 (idv z.x.r) (idv y.x.r)) w = .ok (.bool r1) w := fun w => by
                  have := eql_id w z.x.r y.x.r z.x.hr y.x.hr
                  rwa [hr1] at this
                have HAh : Hid (∀ w, Calls Try.prog 18 #[.int .i64 z.x.h, idv z.u, .int .i64 y.x.h, idv y.u] w fun e w' => e = .returned (.bool r2) ∧ Keep (fun _ => False) w w') := fun w => xahead_any w z.x.h y.x.h z.u y.u z.hu y.hu r2 hr2
                have HPz : Hid (∀ w1, Keep (fun _ => False) w5 w1 → Calls Try.prog 17 #[.slice oa q oc, idv z.u] w1 fun e w' => e = .returned (.int .i64 p3) ∧ Keep (fun _ => False) w1 w') := fun w1 k1 => by
                  have := place_any w1 oa q oc o (HOa.out.calm k1) (by omega) z.u z.hu
                  rwa [hp3] at this
                have HE : Hid (0 ≤ p → r1 = true → r2 = true → p ≤ p3) := fun h1 h2 h3 => by
                  rw [← hp3]
                  exact H3.out h1 z (List.mem_of_getElem? hz3) (by rw [h2] at hr1; simpa using hr1) (by rw [hr2, h3])
                clear hr1 hr2 hp3 hz3
                cases r1 with
                | false =>
                  clear HE
                  go_wp2_with (first | ((with_reducible refine at_load 37 ?_); refine St.wl_load tyD rfl rfl rfl Rz.out HZl.out ?_; simp only [Act.put, List.setIfInBounds_toArray, List.set_cons_zero, List.set_cons_succ]) | ((with_reducible refine at_alloc 37 ?_); refine St.wl_alloc tyD rfl rfl (by (try simp only [World.size_alloc]); rfl) ?_; simp only [Act.put, List.setIfInBounds_toArray, List.set_cons_zero, List.set_cons_succ]) | ((with_reducible refine at_store 37 ?_); refine St.wl_storeN (W := wr) tyD rfl rfl rfl rfl rfl (by (try simp only [World.size_alloc])) (show _ = Value.agg (de z).toArray from rfl) HZs.out rfl HZ1.out ?_) | ((with_reducible refine at_dst 118 ?_); refine wl_loadG (b := wr.heap.size) (o := 33) (by rfl) rfl rfl HZr.out ZR.out ?_; simp only [Act.put, List.setIfInBounds_toArray, List.set_cons_zero, List.set_cons_succ]) | ((with_reducible refine at_dst 120 ?_); refine wl_loadG (b := wo.heap.size) (o := 33) (by rfl) rfl rfl HYr.out RR.out ?_; simp only [Act.put, List.setIfInBounds_toArray, List.set_cons_zero, List.set_cons_succ]) | ((first | (with_reducible refine at_dst 9999 ?_) | (with_reducible refine at_dst 9999 ?_)); refine wl_loadG (b := wr.heap.size) (o := 0) (by rfl) rfl rfl HZu.out ZU.out ?_; simp only [Act.put, List.setIfInBounds_toArray, List.set_cons_zero, List.set_cons_succ]) | ((with_reducible refine at_dst 9999 ?_); refine wl_loadG (b := wo.heap.size) (o := 0) (by rfl) rfl rfl HYu.out RU.out ?_; simp only [Act.put, List.setIfInBounds_toArray, List.set_cons_zero, List.set_cons_succ]) | (go_at_call 18; refine (HAh.out _).mono ?_; rintro e w6 ⟨rfl, k6⟩; have HN : Hid _ := HN.out.calm k6; have KN : Hid _ := KN.out.trans k6; have ZU : Hid _ := rng_u (HN.out.range 1 rfl); clear k6) | (go_at_call 17; refine (HPz.out _ KN.out).mono ?_; rintro e w6 ⟨rfl, k6⟩; have HN : Hid _ := HN.out.calm k6; have KN : Hid _ := KN.out.trans k6; clear k6))
                  go_roundw
                  case rel => exact ⟨j + 1, by omega, by go_num, HN.out.take 1, KN.out⟩
                  case measure => simp [intOf]; omega
                | true =>
                  cases r2 with
                  | false =>
                    clear HE
                    go_wp2_with (first | ((with_reducible refine at_load 37 ?_); refine St.wl_load tyD rfl rfl rfl Rz.out HZl.out ?_; simp only [Act.put, List.setIfInBounds_toArray, List.set_cons_zero, List.set_cons_succ]) | ((with_reducible refine at_alloc 37 ?_); refine St.wl_alloc tyD rfl rfl (by (try simp only [World.size_alloc]); rfl) ?_; simp only [Act.put, List.setIfInBounds_toArray, List.set_cons_zero, List.set_cons_succ]) | ((with_reducible refine at_store 37 ?_); refine St.wl_storeN (W := wr) tyD rfl rfl rfl rfl rfl (by (try simp only [World.size_alloc])) (show _ = Value.agg (de z).toArray from rfl) HZs.out rfl HZ1.out ?_) | ((with_reducible refine at_dst 118 ?_); refine wl_loadG (b := wr.heap.size) (o := 33) (by rfl) rfl rfl HZr.out ZR.out ?_; simp only [Act.put, List.setIfInBounds_toArray, List.set_cons_zero, List.set_cons_succ]) | ((with_reducible refine at_dst 120 ?_); refine wl_loadG (b := wo.heap.size) (o := 33) (by rfl) rfl rfl HYr.out RR.out ?_; simp only [Act.put, List.setIfInBounds_toArray, List.set_cons_zero, List.set_cons_succ]) | ((first | (with_reducible refine at_dst 127 ?_) | (with_reducible refine at_dst 9999 ?_)); refine wl_loadG (b := wr.heap.size) (o := 0) (by rfl) rfl rfl HZu.out ZU.out ?_; simp only [Act.put, List.setIfInBounds_toArray, List.set_cons_zero, List.set_cons_succ]) | ((with_reducible refine at_dst 131 ?_); refine wl_loadG (b := wo.heap.size) (o := 0) (by rfl) rfl rfl HYu.out RU.out ?_; simp only [Act.put, List.setIfInBounds_toArray, List.set_cons_zero, List.set_cons_succ]) | (go_at_call 18; refine (HAh.out _).mono ?_; rintro e w6 ⟨rfl, k6⟩; have HN : Hid _ := HN.out.calm k6; have KN : Hid _ := KN.out.trans k6; have ZU : Hid _ := rng_u (HN.out.range 1 rfl); clear k6) | (go_at_call 17; refine (HPz.out _ KN.out).mono ?_; rintro e w6 ⟨rfl, k6⟩; have HN : Hid _ := HN.out.calm k6; have KN : Hid _ := KN.out.trans k6; clear k6))
                    go_roundw
                    case rel => exact ⟨j + 1, by omega, by go_num, HN.out.take 1, KN.out⟩
                    case measure => simp [intOf]; omega
                  | true =>
                    have hp4 := HE.out hp1 rfl rfl
                    have hp5 : ¬ p3 < p := by omega
                    clear HE hp4
                    go_wp2_with (first | ((with_reducible refine at_load 37 ?_); refine St.wl_load tyD rfl rfl rfl Rz.out HZl.out ?_; simp only [Act.put, List.setIfInBounds_toArray, List.set_cons_zero, List.set_cons_succ]) | ((with_reducible refine at_alloc 37 ?_); refine St.wl_alloc tyD rfl rfl (by (try simp only [World.size_alloc]); rfl) ?_; simp only [Act.put, List.setIfInBounds_toArray, List.set_cons_zero, List.set_cons_succ]) | ((with_reducible refine at_store 37 ?_); refine St.wl_storeN (W := wr) tyD rfl rfl rfl rfl rfl (by (try simp only [World.size_alloc])) (show _ = Value.agg (de z).toArray from rfl) HZs.out rfl HZ1.out ?_) | ((with_reducible refine at_dst 118 ?_); refine wl_loadG (b := wr.heap.size) (o := 33) (by rfl) rfl rfl HZr.out ZR.out ?_; simp only [Act.put, List.setIfInBounds_toArray, List.set_cons_zero, List.set_cons_succ]) | ((with_reducible refine at_dst 120 ?_); refine wl_loadG (b := wo.heap.size) (o := 33) (by rfl) rfl rfl HYr.out RR.out ?_; simp only [Act.put, List.setIfInBounds_toArray, List.set_cons_zero, List.set_cons_succ]) | ((first | (with_reducible refine at_dst 127 ?_) | (with_reducible refine at_dst 137 ?_)); refine wl_loadG (b := wr.heap.size) (o := 0) (by rfl) rfl rfl HZu.out ZU.out ?_; simp only [Act.put, List.setIfInBounds_toArray, List.set_cons_zero, List.set_cons_succ]) | ((with_reducible refine at_dst 131 ?_); refine wl_loadG (b := wo.heap.size) (o := 0) (by rfl) rfl rfl HYu.out RU.out ?_; simp only [Act.put, List.setIfInBounds_toArray, List.set_cons_zero, List.set_cons_succ]) | (go_at_call 18; refine (HAh.out _).mono ?_; rintro e w6 ⟨rfl, k6⟩; have HN : Hid _ := HN.out.calm k6; have KN : Hid _ := KN.out.trans k6; have ZU : Hid _ := rng_u (HN.out.range 1 rfl); clear k6) | (go_at_call 17; refine (HPz.out _ KN.out).mono ?_; rintro e w6 ⟨rfl, k6⟩; have HN : Hid _ := HN.out.calm k6; have KN : Hid _ := KN.out.trans k6; clear k6))
                    go_roundw
                    case rel => exact ⟨j + 1, by omega, by go_num, HN.out.take 1, KN.out⟩
                    case measure => simp [intOf]; omega
              · skip
                obtain rfl : m = j := by omega
                go_wp2
                go_roundw
                case rel => exact ⟨k + 1, by omega, by go_num, KN.out⟩
                case measure => simp [intOf]; omega
        · obtain rfl : m = k := by omega
          have hqm' : (q : Int) ≤ (m : Int) := by omega
          have HSt : Hid (∀ w1, Keep (fun _ => False) w5 w1 → Calls Try.prog 19 #[.slice oa q oc] w1 fun e w' => ∃ a c, e = .returned (.slice a q c) ∧ Keep (fun _ => False) w1 w') := fun w1 k1 => (xset_any w1 oa q oc o (HOa.out.calm k1) (by omega)).mono fun e w' ⟨v, he, hv⟩ => by
            obtain ⟨a, c, e1, _⟩ := hv.1.at
            rw [HSl.out] at e1
            exact ⟨a, c, by rw [he, e1], hv.2.1⟩
          go_wp2_with (first | (go_at_call 19; refine (HSt.out _ KW.out).mono ?_; rintro e w6 ⟨sa, sc, rfl, k6⟩; have KW : Hid _ := KW.out.trans k6; clear k6) | (go_at_call 12; refine (awakeS _).mono ?_; rintro e w9 ⟨rfl, k9⟩; have KW : Hid _ := KW.out.trans k9; clear k9))
          go_ret
          exact ⟨rfl, Keep.below (HKe.out.trans KW.out) (Nat.le_refl _) (fun _ h => h.elim)⟩
set_option maxRecDepth 100000 in
theorem own : ownKnob Try.prog.godebug = none := by kernel_rfl
set_option maxRecDepth 100000 in
theorem laidOut : laidOutB Try.prog = true := by kernel_rfl
set_option maxRecDepth 100000 in
theorem contract (H : Type) (enc : TypeId × Value → H) (W : World) (base : Nat) (args : Array Value) (ds gs : List (DataW H)) (before : List MemPlace)
    (hval : ∀ (j : Nat) t v, Try.f3.params[j]? = some t → args[j]? = some v → Value.okWide Try.prog W .any base t v)
    (hW : DataW.Whole enc Try.prog Try.f3.params.toList Rows.seqBehindSpec.vars false W args.toList ds gs before) :
    Calls Try.prog 3 args W fun e W' => ∃ v, e = .returned v ∧ Rows.seqBehindSpec.post enc Try.prog Try.f3 false true false false W args v W' := by
  have hW' := hW
  obtain ⟨p, q, hA0, hV, rfl, hfz, hnd⟩ := hW
  have hA : DataW.TrodAll enc Try.prog W 0 (fun _ => true) true Try.f3.params.toList args.toList ds p := hA0
  rw [Try.params3] at hA hval
  obtain ⟨rfl, rfl⟩ := trodVars_none hV
  obtain ⟨v0, vs0, d0, ds0, p0, q0, hargs, rfl, rfl, h0, r0⟩ := trodAll_cons hA
  obtain ⟨rfl, rfl, rfl⟩ := trodAll_nil r0
  obtain rfl : args = #[v0] := by cases args; simp_all
  obtain ⟨s, rfl, hs, _⟩ := Opn.open_sl Try.underlying22 rdQl (hval 0 _ v0 rfl rfl) h0
  refine (walk s W hs).mono fun e W' ⟨he, bel⟩ => ?_
  subst he
  exact ⟨_, rfl, Opn.law_post laidOut (by kernel_rfl) rfl Try.underlying4 rfl rfl hW' bel⟩
set_option maxRecDepth 100000 in
theorem lifted (os : Os) (started : os.Started) (H : Type) (enc : TypeId × Value → H) :
    ReturnsInHanded {} Try.checked os 3 .any (Rows.seqBehindSpec.pre6 enc Try.prog Try.f3 Rows.seqBehindRow.domain false) (Rows.seqBehindSpec.post enc Try.prog Try.f3 false true false false) := by
  refine returnsInHanded_of_change (C := Try.checked) own started (by kernel_rfl) Try.func3
    (ChangeSpec.witness6 (enc := enc) (C := Try.checked) false ⟨#[], #[.slice none 0 0], []⟩ 8 (by kernel_rfl) (by kernel_rfl) (by kernel_rfl) (by kernel_rfl)) ?_
  intro W base args ds gs before hval0 hW hcnd _
  exact contract H enc W base args ds gs before hval0 hW
theorem over : Rows.seqBehindRow.holds Try.pinned (OpenSpec.ofChange Rows.seqBehindSpec) :=
  OpenClaim.holds_of_wide 3 Try.f3 rfl rfl rfl rfl rfl rfl rfl ⟨rfl, rfl, rfl, rfl, rfl⟩ rfl rfl rfl rfl rfl (by kernel_rfl) Try.func3 (by kernel_rfl)
    (of_decide_eq_true (by kernel_rfl)) (by unfold Func.isWrapper; first | (rw [if_pos (by decide +kernel)]; kernel_rfl) | (rw [if_neg (by decide +kernel)]; exact ⟨rfl, rfl⟩))
    (fun os started H enc _ => lifted os started H enc)
theorem proved : Rows.SeqBehindSaid := over
end SeqBehind
end Go.Proofs.Ytgpimeobkacniaa
