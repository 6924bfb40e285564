/-
  The document's Check, Insert, Delete.
-/
import Derived.Test.YtgpimeobkacniaaSqX
import Derived.Test.YtgpimeobkacniaaGRf
import Derived.Test.YtgpimeobkacniaaSq8
set_option linter.unusedVariables false
set_option linter.unusedSimpArgs false
namespace Go.Proofs.Ytgpimeobkacniaa
open Go.RowKit
namespace Sq
open Oct Ids Mp
open Mem (M It blk ids rows)
theorem cutD {p : Dn → Bool} : ∀ {l : List Dn} {k : Nat}, k ≤ l.length → (∀ j y, j < k → l[j]? = some y → p y = true) → (∀ y, l[k]? = some y → p y = false) → l.takeWhile p = l.take k ∧ l.dropWhile p = l.drop k
  | [], k, hk, _, _ => by simp at hk; simp [hk]
  | a :: l, 0, _, _, h2 => by
    have := h2 a rfl
    simp [this]
  | a :: l, k + 1, hk, h1, h2 => by
    have ha := h1 0 a (by omega) rfl
    obtain ⟨i1, i2⟩ := cutD (l := l) (k := k) (by simpa using hk) (fun j y hj hy => h1 (j + 1) y (by omega) hy) (fun y hy => h2 y hy)
    simp [ha, i1, i2]
theorem insD_at {X : List Dn} {d : Dn} {k : Nat} (hk : k ≤ X.length) (h1 : ∀ j y, j < k → X[j]? = some y → IdL.cmpL y.u d.u < 0) (h2 : X.length = k ∨ ∃ y, X[k]? = some y ∧ ¬ IdL.cmpL y.u d.u < 0 ∧ y.u ≠ d.u) (hs : IdL.Srt (X.map (·.u))) : insD X d = X.take k ++ [d] ++ X.drop k := by
  have hn : d.u ∉ X.map (·.u) := fun hc => by
    obtain ⟨z, hz, e⟩ := List.mem_map.1 hc
    obtain ⟨i, hi⟩ := List.getElem?_of_mem hz
    rcases Nat.lt_trichotomy i k with hlt | he | hlt
    · have := h1 i z hlt hi
      rw [e] at this
      exact IdL.cmpL_irr _ this
    · rcases h2 with h2 | ⟨y, hy, _, h4⟩
      · have := (List.getElem?_eq_some_iff.1 hi).1
        omega
      · rw [he, hy] at hi
        cases hi
        exact h4 e
    · rcases h2 with h2 | ⟨y, hy, h3, _⟩
      · have := (List.getElem?_eq_some_iff.1 hi).1
        omega
      · unfold IdL.Srt at hs
        rw [List.pairwise_map, List.pairwise_iff_getElem] at hs
        obtain ⟨g1, g2⟩ := List.getElem?_eq_some_iff.1 hy
        obtain ⟨g3, g4⟩ := List.getElem?_eq_some_iff.1 hi
        have := hs k i g1 g3 hlt
        rw [g2, g4, e] at this
        exact h3 this
  obtain ⟨e1, e2⟩ := cutD (p := fun y => decide (IdL.cmpL y.u d.u < 0)) hk (fun j y hj hy => decide_eq_true (h1 j y hj hy)) (fun y hy => by
    rcases h2 with h2 | ⟨z, hz, h3, _⟩
    · have := (List.getElem?_eq_some_iff.1 hy).1
      omega
    · rw [hz] at hy
      cases hy
      exact decide_eq_false h3)
  unfold insD
  rw [if_neg hn, e1, e2]
  simp
theorem insD_has {X : List Dn} {d y : Dn} {k : Nat} (hy : X[k]? = some y) (e : y.u = d.u) : insD X d = X := insD_in (List.mem_map.2 ⟨y, List.mem_of_getElem? hy, e⟩)
theorem row0 {F : Nat → Prop} {w0 w : World} {l : List It} (h : M F w0 w l) {α : Type} {T : TypeId} {n : Nat} {enc : α → List Value} (hE : St.Enc n enc) {b : Nat} (hb : w.heap.size = b) : M F w0 (w.alloc (.cells #[] T)) (l ++ [rows T n enc (.slice (some ⟨b, 0, none⟩) 0 0) ([] : List α)]) := by
  subst hb
  exact h.add (x := rows T n enc (.slice (some ⟨w.heap.size, 0, none⟩) 0 0) []) ((Keep.refl _ _).alloc _) (St.own0 hE w) (fun k hk => by have e : w.heap.size = k := Option.some.inj hk; subst e; simp)
theorem own_sl {α : Type} {T : TypeId} {n : Nat} {enc : α → List Value} {w : World} {a : Option Addr} {q c : Nat} {L : List α} (h : St.Own T n enc w (.slice a q c) L) : L.length = q ∧ St.At n enc w a q L := by
  obtain ⟨a', c', e, hat⟩ := h.any
  simp only [Value.slice.injEq] at e
  obtain ⟨rfl, rfl, rfl⟩ := e
  exact ⟨rfl, hat⟩
theorem own_fm {α : Type} {T : TypeId} {n : Nat} {enc : α → List Value} {w : World} {a : Option Addr} {q c : Nat} {L : List α} (h : St.Own T n enc w (.slice a q c) L) : q ≤ c ∧ c ≤ maxLen ∧ ((a = none ∧ q = 0 ∧ c = 0) ∨ ∃ g, a = some ⟨g, 0, none⟩) := by
  obtain ⟨hl, h1 | ⟨g, cap, cur, e, _, _, hlc, hcm, _⟩⟩ := h.own
  · have e := h1.1
    simp only [Value.slice.injEq] at e
    obtain ⟨rfl, rfl, rfl⟩ := e
    exact ⟨Nat.le_refl _, Nat.zero_le _, .inl ⟨rfl, rfl, rfl⟩⟩
  · simp only [Value.slice.injEq] at e
    obtain ⟨rfl, rfl, rfl⟩ := e
    exact ⟨hlc, hcm, .inr ⟨g, rfl⟩⟩
section
variable {w : World} {b o : Nat} {d : Dn}
theorem rng_u (h : w.rangeAt b o (de d)) : w.rangeAt b o (d.u.map bv) := fun j v hj => by
  refine h j v ?_
  unfold de
  rw [List.getElem?_append_left (List.getElem?_eq_some_iff.1 hj).1]
  exact hj
theorem rng_h (h : w.rangeAt b o (de d)) : w.cell? ⟨b, o + 32, none⟩ = some (.int .i64 d.x.h) := by
  refine h 32 _ ?_
  unfold de
  rw [List.getElem?_append_right (by rw [List.length_map, d.hu]; exact Nat.le_refl _), List.length_map, d.hu]
  rfl
theorem rng_r (h : w.rangeAt b o (de d)) : w.rangeAt b (o + 33) (d.x.r.map bv) := fun j v hj => by
  have e := h (33 + j) v (by
    unfold de
    rw [List.getElem?_append_right (by rw [List.length_map, d.hu]; omega), List.length_map, d.hu, show 33 + j - 32 = j + 1 by omega]
    unfold ne
    rw [List.getElem?_cons_succ, List.getElem?_append_left (List.getElem?_eq_some_iff.1 hj).1]
    exact hj)
  rwa [show o + (33 + j) = o + 33 + j by omega] at e
theorem rng_v (h : w.rangeAt b o (de d)) : w.cell? ⟨b, o + 65, none⟩ = some (.string d.x.v) := by
  refine h 65 _ ?_
  unfold de
  rw [List.getElem?_append_right (by rw [List.length_map, d.hu]; omega), List.length_map, d.hu]
  have := ne_val d.x
  rwa [List.getElem?_toArray] at this
end
section
variable {ops : Array Oper} {rest : List Oper} {o : Oper} {a : Act} {w : World} {Q : Exit → Act → World → Prop}
theorem run_storeD {w : World} {p : Addr} {ad : Option Addr} {n c : Nat} {old : Value} (hc : w.cell? p = some old) (hf : w.frozen? p = false) : (Instr.storeAt 28 (.pointer (some p)) (.slice ad n c)).run Try.prog w = .ok () (w.setCell p (.slice ad n c)) := by
  go_simp
/-- A row's header stored. -/
theorem wl_storeD (hgd : o.guard = none) {x y : Operand} (ho : o.op = .store 28 x y) (hd : o.dst = none) {p : Addr} (hx : a.eval x = .pointer (some p)) {ad : Option Addr} {n c : Nat} (hy : a.eval y = .slice ad n c) {old : Value} (hc : w.cell? p = some old) (hf : w.frozen? p = false)
    (h : wpList Try.prog ops Q rest a (w.setCell p (.slice ad n c))) : wpList Try.prog ops Q (o :: rest) a w :=
  wpList_plain hgd fun K hK => by
    unfold Oper.wp execOp
    simp only [ho, hx, hy, Sem.run_bind, run_storeD hc hf, Result.andThen_ok, Sem.run_pure]
    rw [Oper.upon_skip, hd]
    exact hK _ _ h
/-- 'api.Id{}', guarded or not. -/
theorem wl_buildZ (hw : Region.wanted o (yielded ops a.tmps) = true) (ho : o.op = .build 35 #[]) (h : wpList Try.prog ops Q rest (a.put o.dst (.agg z32)) w) : wpList Try.prog ops Q (o :: rest) a w :=
  wpList_step fun K hK => by
    rw [if_pos hw]
    have hr : ∀ w, (execOp a.eval o).run Try.prog w = .ok (.value (.agg z32)) w := ex_buildL ho [] rfl (by kernel_rfl)
    unfold Oper.wp
    rw [hr]
    exact hK _ _ h
end
set_option maxRecDepth 100000 in
set_option maxHeartbeats 2000000 in
theorem xcheck_any (w : World) (d : Dn) (hv : d.x.v.size ≤ maxLen) :
    Calls Try.prog 92 #[.agg (de d).toArray] w fun e w' => e = .returned (.int .i64 (chk d.u d.x)) ∧ Keep (fun _ => False) w w' := by
  have HM : Hid (M (fun _ => False) w _ [blk w.heap.size (.cells (de d).toArray 37)]) := (M.start _ w).alloc (.cells (de d).toArray 37) rfl
  have RA := HM.out.range 0 rfl
  have d0 := rng_h RA
  have d33 := rng_v RA
  have RU : Hid _ := rng_u RA
  rw [Nat.zero_add] at d0 d33
  obtain ⟨t, ht⟩ : ∃ t, chk d.u d.x = t := ⟨_, rfl⟩
  rw [ht]
  unfold chk at ht
  obtain ⟨p, hp⟩ : ∃ p, (d.u == Zi) = p := ⟨_, rfl⟩
  have hcmp : ∀ w, Sem.run Try.prog (binOp .eql 35 (idv d.u) (.agg z32)) w = .ok (.bool p) w := fun w => by
    have := eql_id w d.u Zi d.hu rfl
    rw [hp] at this
    exact this
  have hp2 : p = true ↔ d.u = Zi := by rw [← hp]; simp
  have HP : Hid (p = true ↔ d.u = Zi) := hp2
  have Hu : Hid (d.u.length = 32) := d.hu
  clear hp hp2 RA
  unfold maxLen at hv
  generalize (de d).toArray = X at HM d0 d33 RU ⊢
  obtain ⟨u, hu, ⟨xh, xr, hr, xv⟩⟩ := d
  simp only at ht d0 d33 hv hcmp HP Hu RU
  have HTT : Hid _ := ht
  clear ht
  go_enter Try.func92, Try.ntmps92
  by_cases h1 : 16 < xv.size
  · have HE := HTT.out
    rw [if_pos h1] at HE
    subst HE
    clear HTT hcmp
    go_wp2
    go_ret
    exact ⟨rfl, HM.out.keep⟩
  · have HE := HTT.out
    rw [if_neg h1] at HE
    have HTT : Hid _ := HE
    clear HE
    by_cases h2 : xh < 1
    · have HE := HTT.out
      rw [if_pos (.inl h2)] at HE
      subst HE
      clear HTT hcmp
      go_wp2
      go_ret
      exact ⟨rfl, HM.out.keep⟩
    · by_cases h3 : 1073741824 < xh
      · have HE := HTT.out
        rw [if_pos (.inr (.inl h3))] at HE
        subst HE
        clear HTT hcmp
        go_wp2
        go_ret
        exact ⟨rfl, HM.out.keep⟩
      · cases p with
        | true =>
          have HE := HTT.out
          rw [if_pos (.inr (.inr (HP.out.1 rfl)))] at HE
          subst HE
          clear HTT
          go_wp2_with (first | ((with_reducible refine at_load 35 ?_); refine wl_loadG (by rfl) rfl rfl Hu.out RU.out ?_; simp only [Act.put, List.setIfInBounds_toArray, List.set_cons_zero, List.set_cons_succ]) | (refine wl_buildZ (by rfl) rfl ?_; simp only [Act.put, List.setIfInBounds_toArray, List.set_cons_zero, List.set_cons_succ]))
          go_ret
          exact ⟨rfl, HM.out.keep⟩
        | false =>
          have HE := HTT.out
          rw [if_neg (fun h => by
            rcases h with h | h | h
            · omega
            · omega
            · have := HP.out.2 h; cases this)] at HE
          subst HE
          clear HTT
          go_wp2_with (first | ((with_reducible refine at_load 35 ?_); refine wl_loadG (by rfl) rfl rfl Hu.out RU.out ?_; simp only [Act.put, List.setIfInBounds_toArray, List.set_cons_zero, List.set_cons_succ]) | (refine wl_buildZ (by rfl) rfl ?_; simp only [Act.put, List.setIfInBounds_toArray, List.set_cons_zero, List.set_cons_succ]))
          go_ret
          exact ⟨rfl, HM.out.keep⟩
/-- What Insert comes to. -/
structure XInsPost (w : World) (b : Nat) (lv gv : Value) (X : List Dn) (G : List Wd) (d : Dn) (e : Ending) (w' : World) : Prop where
  ret : e = .returned (.int .i64 (chk d.u d.x))
  sq : ∃ lv', XSTo w w' b lv gv lv' gv (if chk d.u d.x = 0 then insD X d else X) G
set_option maxRecDepth 100000 in
set_option maxHeartbeats 8000000 in
theorem xinsert_any (w : World) (b : Nat) (lv gv : Value) (X : List Dn) (G : List Wd) (h : XsAt w b lv gv X G) (hX : X.length ≤ 1000) (hs : IdL.Srt (X.map (·.u))) (d : Dn) (hv : d.x.v.size ≤ maxLen) :
    Calls Try.prog 50 #[.pointer (some ⟨b, 0, none⟩), .agg (de d).toArray] w (XInsPost w b lv gv X G d) := by
  obtain ⟨la, lc, e0, _⟩ := h.row
  subst e0
  obtain ⟨n, hn⟩ : ∃ n, X.length = n := ⟨_, rfl⟩
  rw [hn] at h ⊢
  obtain ⟨hnc, hcm, hfm⟩ := own_fm (show St.Own 37 66 de w (.slice la n lc) X from h.all.get 1 rfl)
  have Hf : Hid _ := hfm
  have Hn : Hid (X.length = n) := hn
  have Hs : Hid (IdL.Srt (X.map (·.u))) := hs
  have hn1 : n ≤ 1000 := by omega
  unfold maxLen at hcm
  have HM : Hid (M (xsfoot b (.slice la n lc) gv) w _ (xsit b (.slice la n lc) gv X G ++ [blk w.heap.size (.cells (de d).toArray 37)])) := h.all.alloc (.cells (de d).toArray 37) rfl
  have KW : Hid (Keep (fun _ => False) w _) := (Keep.refl (fun _ => False) w).alloc (.cells (de d).toArray 37)
  have HDl : Hid ((de d).length = 66) := de_len d
  have Hd1 : Hid ((de d).toArray.all (·.oneCell') = true) := encD.all d
  have HU : Hid (d.u.length = 32) := d.hu
  obtain ⟨t, ht⟩ : ∃ t, chk d.u d.x = t := ⟨_, rfl⟩
  have HT : Hid (chk d.u d.x = t) := ht
  have HCk : Hid (∀ w, Calls Try.prog 92 #[.agg (de d).toArray] w fun e w' => e = .returned (.int .i64 t) ∧ Keep (fun _ => False) w w') := fun w => by
    have := xcheck_any w d hv
    rwa [ht] at this
  have HXs : Hid (XsAt w b (.slice la n lc) gv X G) := h
  clear hv ht hn hX hfm hs h
  go_enter Try.func50, Try.ntmps50
  by_cases h0 : t = 0
  case neg =>
    have h0' : (t != 0) = true := by simpa using h0
    have H0 : Hid (t ≠ 0) := h0
    clear h0
    go_wp2_with (first | ((with_reducible refine at_load 37 ?_); refine St.wl_load tyD rfl rfl rfl (HM.out.range 3 rfl) HDl.out ?_; simp only [Act.put, List.setIfInBounds_toArray, List.set_cons_zero, List.set_cons_succ]) | (go_at_call 92; refine (HCk.out _).mono ?_; rintro e w2 ⟨rfl, k2⟩; have HM : Hid _ := HM.out.calm k2; have KW : Hid _ := KW.out.trans k2; clear k2))
    go_ret
    refine ⟨congrArg (fun q => Ending.returned (Value.int .i64 q)) HT.out.symm, ?_⟩
    rw [if_neg (fun h => H0.out (by rw [← HT.out]; exact h))]
    exact ⟨_, XSTo.calm HXs.out KW.out⟩
  subst h0
  go_wp2_with (first | ((with_reducible refine at_load 37 ?_); refine St.wl_load tyD rfl rfl rfl (HM.out.range 3 rfl) HDl.out ?_; simp only [Act.put, List.setIfInBounds_toArray, List.set_cons_zero, List.set_cons_succ]) | (go_at_call 92; refine (HCk.out _).mono ?_; rintro e w2 ⟨rfl, k2⟩; have HM : Hid _ := HM.out.calm k2; have KW : Hid _ := KW.out.trans k2; clear k2))
  clear HCk
  go_loopw [6] (fun s6 wr => ∃ (k : Nat), k ≤ n ∧ s6 = .int .i64 k ∧ M (xsfoot b (.slice la n lc) gv) w wr (xsit b (.slice la n lc) gv X G ++ [blk w.heap.size (.cells (de d).toArray 37)]) ∧ Keep (fun _ => False) w wr ∧ (∀ (j : Nat) (y : Dn), j < k → X[j]? = some y → IdL.cmpL y.u d.u < 0)) (fun s6 _ => n - (intOf s6).toNat)
  case atStart => exact ⟨0, Nat.zero_le _, by go_num, HM.out, KW.out, fun j y hj => absurd hj (Nat.not_lt_zero _)⟩
  case round =>
    clear HM KW
    obtain ⟨k, hk, rfl, hM, hK, hb⟩ := hrel
    have HM : Hid _ := hM
    have KW : Hid _ := hK
    have HB : Hid (∀ (j : Nat) (y : Dn), j < k → X[j]? = some y → IdL.cmpL y.u d.u < 0) := hb
    clear hM hK hb
    by_cases hlt : k < n
    · obtain ⟨y, hy⟩ : ∃ y, X[k]? = some y := ⟨_, List.getElem?_eq_getElem (by rw [Hn.out]; exact hlt)⟩
      have Hy : Hid (X[k]? = some y) := hy
      have HYl : Hid (y.u.length = 32) := y.hu
      obtain ⟨g0, o0, e0, _, hr0⟩ := (own_sl (show St.Own 37 66 de wr (.slice la n lc) X from HM.out.get 1 rfl)).2.lay.resolve_left (by omega)
      subst e0
      have hy0 := hr0 k y hy
      clear hr0 hy
      go_wp2
      have HM : Hid _ := HM.out.drew
      have KW : Hid _ := KW.out.drew
      have c0 := HM.out.cell 0 rfl 0 (v := .slice (some ⟨g0, o0, none⟩) n lc) rfl
      have RU : Hid _ := rng_u (HM.out.range 3 rfl)
      have RY : Hid (wr.drew.rangeAt g0 (o0 + k * 66) (y.u.map bv)) := rng_u hy0
      have Hy0 : Hid _ := hy0
      clear hy0
      obtain ⟨r, hr⟩ : ∃ r, IdL.cmpL y.u d.u = r := ⟨_, rfl⟩
      have HR : Hid (IdL.cmpL y.u d.u = r) := hr
      have HCm : Hid (∀ w, Calls Try.prog 54 #[idv y.u, idv d.u] w fun e w' => e = .returned (.int .i64 r) ∧ Keep (fun _ => False) w w') := fun w => by
        have := xcompare_any w y.u d.u y.hu d.hu
        rwa [hr] at this
      clear hr
      by_cases hr0 : r < 0
      · skip
        refine Txt.wp_region_text (fun _ => True) [0, 0, 0, 0, 1, 0, 0, 0, 0, 0, 0, 1, 0, 0, 0, 1, 0, 1, 4, 0, 0] (by kernel_rfl) (by kernel_rfl) trivial ?_
        (repeat (first | (refine Txt.tl_pure (v := ?_) (by rfl) ?_ ?_; rotate_left; (focus (intro _; go_simp; try with_reducible rfl)); simp only [Act.put, List.setIfInBounds_toArray, List.set_cons_zero, List.set_cons_succ]) | (refine Txt.tl_load (v := ?_) (by rfl) (by rfl) (by rfl) (by kernel_rfl) ?_ ?_; rotate_left; (focus assumption); simp only [Act.put, List.setIfInBounds_toArray, List.set_cons_zero, List.set_cons_succ]) | (refine Txt.tl_rowN (n := 32) (ty := 35) (by rfl) (by rfl) (by rfl) RY.out (by kernel_rfl) (by rw [List.length_map]; exact HYl.out) ?_; simp only [Act.put, List.setIfInBounds_toArray, List.set_cons_zero, List.set_cons_succ]) | (refine Txt.tl_rowN (n := 32) (ty := 35) (by rfl) (by rfl) (by rfl) RU.out (by kernel_rfl) (by rw [List.length_map]; exact HU.out) ?_; simp only [Act.put, List.setIfInBounds_toArray, List.set_cons_zero, List.set_cons_succ]) | (refine Txt.tl_skip (by rfl) trivial ?_; simp only [Act.put, List.setIfInBounds_toArray, List.set_cons_zero, List.set_cons_succ])))
        refine Txt.tl_call Try.func54 (by kernel_rfl) (by kernel_rfl) (by rfl) (by rfl) (by rfl) (HCm.out _) ?_
        rintro e w2 ⟨rfl, k2⟩
        have HM : Hid _ := HM.out.calm k2
        have KW : Hid _ := KW.out.trans k2
        clear k2 c0
        refine ⟨_, rfl, trivial, ?_⟩
        simp only [Act.put, List.setIfInBounds_toArray, List.set_cons_zero, List.set_cons_succ]
        (repeat (first | (refine Txt.tl_pure (v := ?_) (by rfl) ?_ ?_; rotate_left; (focus (intro _; go_simp; try with_reducible rfl)); simp only [Act.put, List.setIfInBounds_toArray, List.set_cons_zero, List.set_cons_succ]) | (refine Txt.tl_load (v := ?_) (by rfl) (by rfl) (by rfl) (by kernel_rfl) ?_ ?_; rotate_left; (focus assumption); simp only [Act.put, List.setIfInBounds_toArray, List.set_cons_zero, List.set_cons_succ]) | (refine Txt.tl_rowN (n := 32) (ty := 35) (by rfl) (by rfl) (by rfl) RY.out (by kernel_rfl) (by rw [List.length_map]; exact HYl.out) ?_; simp only [Act.put, List.setIfInBounds_toArray, List.set_cons_zero, List.set_cons_succ]) | (refine Txt.tl_rowN (n := 32) (ty := 35) (by rfl) (by rfl) (by rfl) RU.out (by kernel_rfl) (by rw [List.length_map]; exact HU.out) ?_; simp only [Act.put, List.setIfInBounds_toArray, List.set_cons_zero, List.set_cons_succ]) | (refine Txt.tl_skip (by rfl) trivial ?_; simp only [Act.put, List.setIfInBounds_toArray, List.set_cons_zero, List.set_cons_succ])))
        refine Txt.tl_nil ?_
        go_wp2
        go_roundw
        case rel =>
          refine ⟨k + 1, by omega, by go_num, HM.out, KW.out, fun j z hj hz => ?_⟩
          rcases Nat.lt_or_ge j k with h1 | h1
          · exact HB.out j z h1 hz
          · obtain rfl : j = k := by omega
            rw [Hy.out] at hz
            rw [← Option.some.inj hz, HR.out]
            exact hr0
        case measure => simp [intOf]; omega
      · skip
        refine Txt.wp_region_text (fun _ => True) [0, 0, 0, 0, 1, 0, 0, 0, 0, 0, 0, 1, 0, 0, 0, 1, 0, 1, 4, 0, 0] (by kernel_rfl) (by kernel_rfl) trivial ?_
        (repeat (first | (refine Txt.tl_pure (v := ?_) (by rfl) ?_ ?_; rotate_left; (focus (intro _; go_simp; try with_reducible rfl)); simp only [Act.put, List.setIfInBounds_toArray, List.set_cons_zero, List.set_cons_succ]) | (refine Txt.tl_load (v := ?_) (by rfl) (by rfl) (by rfl) (by kernel_rfl) ?_ ?_; rotate_left; (focus assumption); simp only [Act.put, List.setIfInBounds_toArray, List.set_cons_zero, List.set_cons_succ]) | (refine Txt.tl_rowN (n := 32) (ty := 35) (by rfl) (by rfl) (by rfl) RY.out (by kernel_rfl) (by rw [List.length_map]; exact HYl.out) ?_; simp only [Act.put, List.setIfInBounds_toArray, List.set_cons_zero, List.set_cons_succ]) | (refine Txt.tl_rowN (n := 32) (ty := 35) (by rfl) (by rfl) (by rfl) RU.out (by kernel_rfl) (by rw [List.length_map]; exact HU.out) ?_; simp only [Act.put, List.setIfInBounds_toArray, List.set_cons_zero, List.set_cons_succ]) | (refine Txt.tl_skip (by rfl) trivial ?_; simp only [Act.put, List.setIfInBounds_toArray, List.set_cons_zero, List.set_cons_succ])))
        refine Txt.tl_call Try.func54 (by kernel_rfl) (by kernel_rfl) (by rfl) (by rfl) (by rfl) (HCm.out _) ?_
        rintro e w2 ⟨rfl, k2⟩
        have HM : Hid _ := HM.out.calm k2
        have KW : Hid _ := KW.out.trans k2
        clear k2 c0
        refine ⟨_, rfl, trivial, ?_⟩
        simp only [Act.put, List.setIfInBounds_toArray, List.set_cons_zero, List.set_cons_succ]
        (repeat (first | (refine Txt.tl_pure (v := ?_) (by rfl) ?_ ?_; rotate_left; (focus (intro _; go_simp; try with_reducible rfl)); simp only [Act.put, List.setIfInBounds_toArray, List.set_cons_zero, List.set_cons_succ]) | (refine Txt.tl_load (v := ?_) (by rfl) (by rfl) (by rfl) (by kernel_rfl) ?_ ?_; rotate_left; (focus assumption); simp only [Act.put, List.setIfInBounds_toArray, List.set_cons_zero, List.set_cons_succ]) | (refine Txt.tl_rowN (n := 32) (ty := 35) (by rfl) (by rfl) (by rfl) RY.out (by kernel_rfl) (by rw [List.length_map]; exact HYl.out) ?_; simp only [Act.put, List.setIfInBounds_toArray, List.set_cons_zero, List.set_cons_succ]) | (refine Txt.tl_rowN (n := 32) (ty := 35) (by rfl) (by rfl) (by rfl) RU.out (by kernel_rfl) (by rw [List.length_map]; exact HU.out) ?_; simp only [Act.put, List.setIfInBounds_toArray, List.set_cons_zero, List.set_cons_succ]) | (refine Txt.tl_skip (by rfl) trivial ?_; simp only [Act.put, List.setIfInBounds_toArray, List.set_cons_zero, List.set_cons_succ])))
        refine Txt.tl_nil ?_
        go_wp2
        have HM : Hid _ := HM.out.drew
        have KW : Hid _ := KW.out.drew
        have c0 := HM.out.cell 0 rfl 0 (v := .slice (some ⟨g0, o0, none⟩) n lc) rfl
        have RU : Hid _ := rng_u (HM.out.range 3 rfl)
        have RY : Hid _ := rng_u ((own_sl (show St.Own 37 66 de _ (.slice (some ⟨g0, o0, none⟩) n lc) X from HM.out.get 1 rfl)).2.lay.resolve_left (by omega) |> fun ⟨_, _, e, _, hr⟩ => (by cases e; exact hr k y Hy.out))
        obtain ⟨p, hp⟩ : ∃ p, (y.u == d.u) = p := ⟨_, rfl⟩
        have hcmp : ∀ w, Sem.run Try.prog (binOp .eql 35 (idv y.u) (idv d.u)) w = .ok (.bool p) w := fun w => by
          have := eql_id w y.u d.u y.hu d.hu
          rwa [hp] at this
        have HP : Hid _ := hp
        clear hp
        cases p with
        | true =>
          refine Txt.wp_region_text (fun _ => True) [0, 0, 0, 0, 1, 0, 0, 0, 0, 0, 0, 1, 0, 0, 0, 1, 0, 1, 0, 0] (by kernel_rfl) (by kernel_rfl) trivial ?_
          (repeat (first | (refine Txt.tl_pure (v := ?_) (by rfl) ?_ ?_; rotate_left; (focus (intro _; go_simp; try with_reducible rfl)); simp only [Act.put, List.setIfInBounds_toArray, List.set_cons_zero, List.set_cons_succ]) | (refine Txt.tl_load (v := ?_) (by rfl) (by rfl) (by rfl) (by kernel_rfl) ?_ ?_; rotate_left; (focus assumption); simp only [Act.put, List.setIfInBounds_toArray, List.set_cons_zero, List.set_cons_succ]) | (refine Txt.tl_rowN (n := 32) (ty := 35) (by rfl) (by rfl) (by rfl) RY.out (by kernel_rfl) (by rw [List.length_map]; exact HYl.out) ?_; simp only [Act.put, List.setIfInBounds_toArray, List.set_cons_zero, List.set_cons_succ]) | (refine Txt.tl_rowN (n := 32) (ty := 35) (by rfl) (by rfl) (by rfl) RU.out (by kernel_rfl) (by rw [List.length_map]; exact HU.out) ?_; simp only [Act.put, List.setIfInBounds_toArray, List.set_cons_zero, List.set_cons_succ]) | (refine Txt.tl_skip (by rfl) trivial ?_; simp only [Act.put, List.setIfInBounds_toArray, List.set_cons_zero, List.set_cons_succ])))
          refine Txt.tl_nil ?_
          clear c0 hcmp
          go_wp2
          go_ret
          refine ⟨congrArg (fun q => Ending.returned (Value.int .i64 q)) HT.out.symm, ?_⟩
          rw [if_pos HT.out, insD_has Hy.out (by simpa using HP.out)]
          exact ⟨_, XSTo.calm HXs.out KW.out⟩
        | false =>
          refine Txt.wp_region_text (fun _ => True) [0, 0, 0, 0, 1, 0, 0, 0, 0, 0, 0, 1, 0, 0, 0, 1, 0, 1, 0, 0] (by kernel_rfl) (by kernel_rfl) trivial ?_
          (repeat (first | (refine Txt.tl_pure (v := ?_) (by rfl) ?_ ?_; rotate_left; (focus (intro _; go_simp; try with_reducible rfl)); simp only [Act.put, List.setIfInBounds_toArray, List.set_cons_zero, List.set_cons_succ]) | (refine Txt.tl_load (v := ?_) (by rfl) (by rfl) (by rfl) (by kernel_rfl) ?_ ?_; rotate_left; (focus assumption); simp only [Act.put, List.setIfInBounds_toArray, List.set_cons_zero, List.set_cons_succ]) | (refine Txt.tl_rowN (n := 32) (ty := 35) (by rfl) (by rfl) (by rfl) RY.out (by kernel_rfl) (by rw [List.length_map]; exact HYl.out) ?_; simp only [Act.put, List.setIfInBounds_toArray, List.set_cons_zero, List.set_cons_succ]) | (refine Txt.tl_rowN (n := 32) (ty := 35) (by rfl) (by rfl) (by rfl) RU.out (by kernel_rfl) (by rw [List.length_map]; exact HU.out) ?_; simp only [Act.put, List.setIfInBounds_toArray, List.set_cons_zero, List.set_cons_succ]) | (refine Txt.tl_skip (by rfl) trivial ?_; simp only [Act.put, List.setIfInBounds_toArray, List.set_cons_zero, List.set_cons_succ])))
          refine Txt.tl_nil ?_
          clear c0 hcmp
          have HE : Hid (insD X d = X.take k ++ [d] ++ X.drop k) := insD_at (by rw [Hn.out]; omega) HB.out (.inr ⟨y, Hy.out, by rw [HR.out]; omega, by have := HP.out; simpa using this⟩) Hs.out
          have hkc : (k : Int) ≤ (lc : Int) := by omega
          have hkc2 : ¬ lc = k := by omega
          have A2 : Hid (∀ w', St.Own 37 66 de w' (.slice (some ⟨g0, o0, none⟩) n lc) X → St.At 66 de w' (some ⟨g0, o0 + k * 66, none⟩) (n - k) (X.drop k)) := fun w' h => (own_sl h).2.tail k (by omega)
          go_wp2_with (first | (refine St.wl_build0 encD slD rfl rfl ?_; intro o1; clear o1; have HM : Hid _ := row0 HM.out (T := 37) encD rfl; have c0 : World.cell? (World.alloc w2 (.cells #[] 37)) ⟨b, 0, none⟩ = some (.slice (some ⟨g0, o0, none⟩) (n) (lc)) := HM.out.cell 0 rfl 0 rfl; simp only [Act.put, List.setIfInBounds_toArray, List.set_cons_zero, List.set_cons_succ]) | (refine St.wl_appR (els := ([] : List Dn)) encD slD (by decide) rfl rfl rfl (HM.out.get 4 rfl) rfl ((own_sl (HM.out.get 1 rfl)).2.cut _ (by omega)) (by simp <;> omega) ?_; intro v1 w3 h1 k1 g1; have HM : Hid _ := HM.out.appR 4 rfl h1 k1 g1; clear h1 k1 g1 c0; simp only [Act.put, List.setIfInBounds_toArray, List.set_cons_zero, List.set_cons_succ]) | ((with_reducible refine at_load 37 ?_); refine St.wl_load tyD rfl rfl rfl (HM.out.range 3 rfl) HDl.out ?_; simp only [Act.put, List.setIfInBounds_toArray, List.set_cons_zero, List.set_cons_succ]) | (refine St.wl_build slD (by decide) rfl rfl HDl.out rfl ?_; have HM : Hid _ := HM.out.alloc (.cells (de d).toArray 37) rfl; simp only [Act.put, List.setIfInBounds_toArray, List.set_cons_zero, List.set_cons_succ]) | (refine St.wl_app1z encD slD (by decide) rfl rfl rfl (HM.out.get 4 rfl) rfl d rfl (HM.out.get 5 rfl) (by simp <;> omega) ?_; intro v2 w4 h2 k2 g2; have HM : Hid _ := HM.out.appR 4 rfl h2 k2 g2; have c0 := HM.out.cell 0 rfl 0 (v := .slice (some ⟨g0, o0, none⟩) (n) (lc)) rfl; clear h2 k2 g2; simp only [Act.put, List.setIfInBounds_toArray, List.set_cons_zero, List.set_cons_succ]) | (refine St.wl_appR encD slD (by decide) rfl rfl rfl (HM.out.get 4 rfl) rfl (A2.out _ (HM.out.get 1 rfl)) (by simp <;> omega) ?_; intro v3 w5 h3 k3 g3; obtain ⟨a3, n3, c3, e3⟩ : ∃ a n c, v3 = .slice a n c := (by obtain ⟨a, c, e, _⟩ := h3.any; exact ⟨_, _, _, e⟩); subst e3; have HM : Hid _ := HM.out.appR 4 rfl h3 k3 g3; clear h3 k3 g3 c0; simp only [Act.put, List.setIfInBounds_toArray, List.set_cons_zero, List.set_cons_succ]) | ((with_reducible refine at_store 28 ?_); refine wl_storeD rfl rfl rfl rfl rfl (HM.out.cell 0 rfl 0 rfl) (HM.out.free 0 rfl 0) ?_; have HM : Hid _ := HM.out.setc 0 rfl 0 (.slice a3 n3 c3)))
          go_ret
          refine ⟨congrArg (fun q => Ending.returned (Value.int .i64 q)) HT.out.symm, ?_⟩
          rw [if_pos HT.out, HE.out]
          exact ⟨_, XSTo.of (HM.out.sub _ [0, 4, 2] (by decide) rfl)⟩
    · obtain rfl : n = k := by omega
      go_wp2
      have HM : Hid _ := HM.out.drew
      have KW : Hid _ := KW.out.drew
      have c0 := HM.out.cell 0 rfl 0 (v := .slice la n lc) rfl
      refine Txt.wp_region_text (fun _ => True) [0, 0, 0, 0, 1, 0, 0, 0, 0, 0, 0, 1, 0, 0, 0, 1, 0, 1, 4, 0, 0] (by kernel_rfl) (by kernel_rfl) trivial ?_
      (repeat (first | (refine Txt.tl_pure (v := ?_) (by rfl) ?_ ?_; rotate_left; (focus (intro _; go_simp; try with_reducible rfl)); simp only [Act.put, List.setIfInBounds_toArray, List.set_cons_zero, List.set_cons_succ]) | (refine Txt.tl_load (v := ?_) (by rfl) (by rfl) (by rfl) (by kernel_rfl) ?_ ?_; rotate_left; (focus assumption); simp only [Act.put, List.setIfInBounds_toArray, List.set_cons_zero, List.set_cons_succ]) | (refine Txt.tl_rowN (n := 32) (ty := 35) (by rfl) (by rfl) (by rfl) RY.out (by kernel_rfl) (by rw [List.length_map]; exact HYl.out) ?_; simp only [Act.put, List.setIfInBounds_toArray, List.set_cons_zero, List.set_cons_succ]) | (refine Txt.tl_rowN (n := 32) (ty := 35) (by rfl) (by rfl) (by rfl) RU.out (by kernel_rfl) (by rw [List.length_map]; exact HU.out) ?_; simp only [Act.put, List.setIfInBounds_toArray, List.set_cons_zero, List.set_cons_succ]) | (refine Txt.tl_skip (by rfl) trivial ?_; simp only [Act.put, List.setIfInBounds_toArray, List.set_cons_zero, List.set_cons_succ])))
      refine Txt.tl_nil ?_
      clear c0
      go_wp2
      have HM : Hid _ := HM.out.drew
      have KW : Hid _ := KW.out.drew
      have c0 := HM.out.cell 0 rfl 0 (v := .slice la n lc) rfl
      refine Txt.wp_region_text (fun _ => True) [0, 0, 0, 0, 1, 0, 0, 0, 0, 0, 0, 1, 0, 0, 0, 1, 0, 1, 0, 0] (by kernel_rfl) (by kernel_rfl) trivial ?_
      (repeat (first | (refine Txt.tl_pure (v := ?_) (by rfl) ?_ ?_; rotate_left; (focus (intro _; go_simp; try with_reducible rfl)); simp only [Act.put, List.setIfInBounds_toArray, List.set_cons_zero, List.set_cons_succ]) | (refine Txt.tl_load (v := ?_) (by rfl) (by rfl) (by rfl) (by kernel_rfl) ?_ ?_; rotate_left; (focus assumption); simp only [Act.put, List.setIfInBounds_toArray, List.set_cons_zero, List.set_cons_succ]) | (refine Txt.tl_rowN (n := 32) (ty := 35) (by rfl) (by rfl) (by rfl) RY.out (by kernel_rfl) (by rw [List.length_map]; exact HYl.out) ?_; simp only [Act.put, List.setIfInBounds_toArray, List.set_cons_zero, List.set_cons_succ]) | (refine Txt.tl_rowN (n := 32) (ty := 35) (by rfl) (by rfl) (by rfl) RU.out (by kernel_rfl) (by rw [List.length_map]; exact HU.out) ?_; simp only [Act.put, List.setIfInBounds_toArray, List.set_cons_zero, List.set_cons_succ]) | (refine Txt.tl_skip (by rfl) trivial ?_; simp only [Act.put, List.setIfInBounds_toArray, List.set_cons_zero, List.set_cons_succ])))
      refine Txt.tl_nil ?_
      have HE : Hid (insD X d = X.take n ++ [d] ++ X.drop n) := insD_at (by rw [Hn.out]; exact Nat.le_refl _) HB.out (.inl Hn.out) Hs.out
      have hdn : Hid (X.drop n = []) := List.drop_eq_nil_of_le (by rw [Hn.out]; exact Nat.le_refl _)
      rcases Hf.out with ⟨rfl, rfl, rfl⟩ | ⟨g0, rfl⟩
      · have A2 : Hid (∀ w', St.Own 37 66 de w' (.slice none 0 0) X → St.At 66 de w' none 0 (X.drop 0)) := fun w' h => by rw [hdn.out]; exact (own_sl h).2.empty
        go_wp2_with (first | (refine St.wl_build0 encD slD rfl rfl ?_; intro o1; clear o1; have HM : Hid _ := row0 HM.out (T := 37) encD rfl; have c0 : World.cell? (World.alloc wr (.cells #[] 37)) ⟨b, 0, none⟩ = some (.slice (none) (0) (0)) := HM.out.cell 0 rfl 0 rfl; simp only [Act.put, List.setIfInBounds_toArray, List.set_cons_zero, List.set_cons_succ]) | (refine St.wl_appR (els := ([] : List Dn)) encD slD (by decide) rfl rfl rfl (HM.out.get 4 rfl) rfl ((own_sl (HM.out.get 1 rfl)).2.cut _ (by omega)) (by simp <;> omega) ?_; intro v1 w3 h1 k1 g1; have HM : Hid _ := HM.out.appR 4 rfl h1 k1 g1; clear h1 k1 g1 c0; simp only [Act.put, List.setIfInBounds_toArray, List.set_cons_zero, List.set_cons_succ]) | ((with_reducible refine at_load 37 ?_); refine St.wl_load tyD rfl rfl rfl (HM.out.range 3 rfl) HDl.out ?_; simp only [Act.put, List.setIfInBounds_toArray, List.set_cons_zero, List.set_cons_succ]) | (refine St.wl_build slD (by decide) rfl rfl HDl.out rfl ?_; have HM : Hid _ := HM.out.alloc (.cells (de d).toArray 37) rfl; simp only [Act.put, List.setIfInBounds_toArray, List.set_cons_zero, List.set_cons_succ]) | (refine St.wl_app1z encD slD (by decide) rfl rfl rfl (HM.out.get 4 rfl) rfl d rfl (HM.out.get 5 rfl) (by simp <;> omega) ?_; intro v2 w4 h2 k2 g2; have HM : Hid _ := HM.out.appR 4 rfl h2 k2 g2; have c0 := HM.out.cell 0 rfl 0 (v := .slice (none) (0) (0)) rfl; clear h2 k2 g2; simp only [Act.put, List.setIfInBounds_toArray, List.set_cons_zero, List.set_cons_succ]) | (refine St.wl_appR encD slD (by decide) rfl rfl rfl (HM.out.get 4 rfl) rfl (A2.out _ (HM.out.get 1 rfl)) (by simp <;> omega) ?_; intro v3 w5 h3 k3 g3; obtain ⟨a3, n3, c3, e3⟩ : ∃ a n c, v3 = .slice a n c := (by obtain ⟨a, c, e, _⟩ := h3.any; exact ⟨_, _, _, e⟩); subst e3; have HM : Hid _ := HM.out.appR 4 rfl h3 k3 g3; clear h3 k3 g3 c0; simp only [Act.put, List.setIfInBounds_toArray, List.set_cons_zero, List.set_cons_succ]) | ((with_reducible refine at_store 28 ?_); refine wl_storeD rfl rfl rfl rfl rfl (HM.out.cell 0 rfl 0 rfl) (HM.out.free 0 rfl 0) ?_; have HM : Hid _ := HM.out.setc 0 rfl 0 (.slice a3 n3 c3)))
        go_ret
        refine ⟨congrArg (fun q => Ending.returned (Value.int .i64 q)) HT.out.symm, ?_⟩
        rw [if_pos HT.out, HE.out]
        exact ⟨_, XSTo.of (HM.out.sub _ [0, 4, 2] (by decide) rfl)⟩
      · by_cases hkc : lc = n
        · subst hkc
          have A2 : Hid (∀ w', St.Own 37 66 de w' (.slice (some ⟨g0, 0, none⟩) lc lc) X → St.At 66 de w' (some ⟨g0, 0, none⟩) 0 (X.drop lc)) := fun w' h => by rw [hdn.out]; exact (own_sl h).2.empty
          go_wp2_with (first | (refine St.wl_build0 encD slD rfl rfl ?_; intro o1; clear o1; have HM : Hid _ := row0 HM.out (T := 37) encD rfl; have c0 : World.cell? (World.alloc wr (.cells #[] 37)) ⟨b, 0, none⟩ = some (.slice (some ⟨g0, 0, none⟩) (lc) (lc)) := HM.out.cell 0 rfl 0 rfl; simp only [Act.put, List.setIfInBounds_toArray, List.set_cons_zero, List.set_cons_succ]) | (refine St.wl_appR (els := ([] : List Dn)) encD slD (by decide) rfl rfl rfl (HM.out.get 4 rfl) rfl ((own_sl (HM.out.get 1 rfl)).2.cut _ (by omega)) (by simp <;> omega) ?_; intro v1 w3 h1 k1 g1; have HM : Hid _ := HM.out.appR 4 rfl h1 k1 g1; clear h1 k1 g1 c0; simp only [Act.put, List.setIfInBounds_toArray, List.set_cons_zero, List.set_cons_succ]) | ((with_reducible refine at_load 37 ?_); refine St.wl_load tyD rfl rfl rfl (HM.out.range 3 rfl) HDl.out ?_; simp only [Act.put, List.setIfInBounds_toArray, List.set_cons_zero, List.set_cons_succ]) | (refine St.wl_build slD (by decide) rfl rfl HDl.out rfl ?_; have HM : Hid _ := HM.out.alloc (.cells (de d).toArray 37) rfl; simp only [Act.put, List.setIfInBounds_toArray, List.set_cons_zero, List.set_cons_succ]) | (refine St.wl_app1z encD slD (by decide) rfl rfl rfl (HM.out.get 4 rfl) rfl d rfl (HM.out.get 5 rfl) (by simp <;> omega) ?_; intro v2 w4 h2 k2 g2; have HM : Hid _ := HM.out.appR 4 rfl h2 k2 g2; have c0 := HM.out.cell 0 rfl 0 (v := .slice (some ⟨g0, 0, none⟩) (lc) (lc)) rfl; clear h2 k2 g2; simp only [Act.put, List.setIfInBounds_toArray, List.set_cons_zero, List.set_cons_succ]) | (refine St.wl_appR encD slD (by decide) rfl rfl rfl (HM.out.get 4 rfl) rfl (A2.out _ (HM.out.get 1 rfl)) (by simp <;> omega) ?_; intro v3 w5 h3 k3 g3; obtain ⟨a3, n3, c3, e3⟩ : ∃ a n c, v3 = .slice a n c := (by obtain ⟨a, c, e, _⟩ := h3.any; exact ⟨_, _, _, e⟩); subst e3; have HM : Hid _ := HM.out.appR 4 rfl h3 k3 g3; clear h3 k3 g3 c0; simp only [Act.put, List.setIfInBounds_toArray, List.set_cons_zero, List.set_cons_succ]) | ((with_reducible refine at_store 28 ?_); refine wl_storeD rfl rfl rfl rfl rfl (HM.out.cell 0 rfl 0 rfl) (HM.out.free 0 rfl 0) ?_; have HM : Hid _ := HM.out.setc 0 rfl 0 (.slice a3 n3 c3)))
          go_ret
          refine ⟨congrArg (fun q => Ending.returned (Value.int .i64 q)) HT.out.symm, ?_⟩
          rw [if_pos HT.out, HE.out]
          exact ⟨_, XSTo.of (HM.out.sub _ [0, 4, 2] (by decide) rfl)⟩
        · have hnc' : (n : Int) ≤ (lc : Int) := by omega
          have A2 : Hid (∀ w', St.Own 37 66 de w' (.slice (some ⟨g0, 0, none⟩) n lc) X → St.At 66 de w' (some ⟨g0, n * 66, none⟩) 0 (X.drop n)) := fun w' h => by rw [hdn.out]; exact (own_sl h).2.empty
          go_wp2_with (first | (refine St.wl_build0 encD slD rfl rfl ?_; intro o1; clear o1; have HM : Hid _ := row0 HM.out (T := 37) encD rfl; have c0 : World.cell? (World.alloc wr (.cells #[] 37)) ⟨b, 0, none⟩ = some (.slice (some ⟨g0, 0, none⟩) (n) (lc)) := HM.out.cell 0 rfl 0 rfl; simp only [Act.put, List.setIfInBounds_toArray, List.set_cons_zero, List.set_cons_succ]) | (refine St.wl_appR (els := ([] : List Dn)) encD slD (by decide) rfl rfl rfl (HM.out.get 4 rfl) rfl ((own_sl (HM.out.get 1 rfl)).2.cut _ (by omega)) (by simp <;> omega) ?_; intro v1 w3 h1 k1 g1; have HM : Hid _ := HM.out.appR 4 rfl h1 k1 g1; clear h1 k1 g1 c0; simp only [Act.put, List.setIfInBounds_toArray, List.set_cons_zero, List.set_cons_succ]) | ((with_reducible refine at_load 37 ?_); refine St.wl_load tyD rfl rfl rfl (HM.out.range 3 rfl) HDl.out ?_; simp only [Act.put, List.setIfInBounds_toArray, List.set_cons_zero, List.set_cons_succ]) | (refine St.wl_build slD (by decide) rfl rfl HDl.out rfl ?_; have HM : Hid _ := HM.out.alloc (.cells (de d).toArray 37) rfl; simp only [Act.put, List.setIfInBounds_toArray, List.set_cons_zero, List.set_cons_succ]) | (refine St.wl_app1z encD slD (by decide) rfl rfl rfl (HM.out.get 4 rfl) rfl d rfl (HM.out.get 5 rfl) (by simp <;> omega) ?_; intro v2 w4 h2 k2 g2; have HM : Hid _ := HM.out.appR 4 rfl h2 k2 g2; have c0 := HM.out.cell 0 rfl 0 (v := .slice (some ⟨g0, 0, none⟩) (n) (lc)) rfl; clear h2 k2 g2; simp only [Act.put, List.setIfInBounds_toArray, List.set_cons_zero, List.set_cons_succ]) | (refine St.wl_appR encD slD (by decide) rfl rfl rfl (HM.out.get 4 rfl) rfl (A2.out _ (HM.out.get 1 rfl)) (by simp <;> omega) ?_; intro v3 w5 h3 k3 g3; obtain ⟨a3, n3, c3, e3⟩ : ∃ a n c, v3 = .slice a n c := (by obtain ⟨a, c, e, _⟩ := h3.any; exact ⟨_, _, _, e⟩); subst e3; have HM : Hid _ := HM.out.appR 4 rfl h3 k3 g3; clear h3 k3 g3 c0; simp only [Act.put, List.setIfInBounds_toArray, List.set_cons_zero, List.set_cons_succ]) | ((with_reducible refine at_store 28 ?_); refine wl_storeD rfl rfl rfl rfl rfl (HM.out.cell 0 rfl 0 rfl) (HM.out.free 0 rfl 0) ?_; have HM : Hid _ := HM.out.setc 0 rfl 0 (.slice a3 n3 c3)))
          go_ret
          refine ⟨congrArg (fun q => Ending.returned (Value.int .i64 q)) HT.out.symm, ?_⟩
          rw [if_pos HT.out, HE.out]
          exact ⟨_, XSTo.of (HM.out.sub _ [0, 4, 2] (by decide) rfl)⟩
end Sq
end Go.Proofs.Ytgpimeobkacniaa
