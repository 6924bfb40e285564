/-
  rule.Next: a header behind heads.
-/
import Derived.Test.YtgllkfolckbdhaaGreatDoorNx4
import Derived.Test.YtgllkfolckbdhaaGreatDoorDrw
import Derived.Test.YtgllkfolckbdhaaGreatDoorPx2
set_option linter.unusedVariables false
set_option linter.unusedSimpArgs false
namespace Go.Proofs.YtgllkfolckbdhaaGreatDoor
open Go.RowKit
namespace Txt
/-- A struct made, as a step that reads nothing. -/
theorem ex_build {P : Program} {o : Oper} {a : Act} {T : TypeId} {parts : Array (Nat × Operand)} (ho : o.op = .build T parts) (ps : List (Nat × Value)) (hp : (parts.toList.map fun (i, x) => (i, a.eval x)) = ps) {v : Value} (hr : ∀ w, (Instr.build T ps.toArray).run P w = .ok v w) : ∀ w, (execOp a.eval o).run P w = .ok (.value v) w := fun w2 => by
  have e : (parts.map fun (i, x) => (i, a.eval x)) = ps.toArray := Array.toList_inj.1 (by rw [Array.toList_map]; exact hp)
  unfold execOp
  simp only [ho, e, Sem.run_bind, hr, Result.andThen_ok, Sem.run_pure]
end Txt
namespace Nx
open Oct Ids Gn Hd Ru
open Mem (M It blk ids rows)
theorem built_H (parts : List (Nat × Value)) : Tryz.prog.built 28 parts = Instr.fill (fun i => #[(0, 1), (1, 1), (2, 1), (3, 1), (4, 1), (5, 1), (6, 32)][i]?) hz0 parts := by kernel_rfl
theorem built_hd (a : Option Addr) (n c : Nat) (G : Int) (T : ByteArray) (A Q Z : Int) (m : List UInt8) (hm : m.length = 32) : Tryz.prog.built 28 [(0, .slice a n c), (1, .int .i64 G), (2, .string T), (3, .int .i64 A), (4, .int .i64 Q), (5, .int .i64 Z), (6, idv m)] = some (hd (.slice a n c) G T A Q Z m).toArray := by
  rw [built_H, show hz0 = (hd (.slice none 0 0) 0 ByteArray.empty 0 0 0 Z32).toArray from rfl]
  rw [St.fill_cons (off := 0) (size := 1) (cs := [.slice a n c]) rfl rfl rfl (Nat.le_of_ble_eq_true rfl)]
  rw [St.fill_cons (off := 1) (size := 1) (cs := [.int .i64 G]) rfl rfl rfl (Nat.le_of_ble_eq_true rfl)]
  rw [St.fill_cons (off := 2) (size := 1) (cs := [.string T]) rfl rfl rfl (Nat.le_of_ble_eq_true rfl)]
  rw [St.fill_cons (off := 3) (size := 1) (cs := [.int .i64 A]) rfl rfl rfl (Nat.le_of_ble_eq_true rfl)]
  rw [St.fill_cons (off := 4) (size := 1) (cs := [.int .i64 Q]) rfl rfl rfl (Nat.le_of_ble_eq_true rfl)]
  rw [St.fill_cons (off := 5) (size := 1) (cs := [.int .i64 Z]) rfl rfl rfl (Nat.le_of_ble_eq_true rfl)]
  rw [St.fill_cons (off := 6) (size := 32) (cs := m.map bv) rfl rfl (by rw [List.length_map]; exact hm) (Nat.le_of_ble_eq_true rfl), Instr.fill]
  have hx : ∀ X : List Value, X.length ≤ 38 → (X.take 6 ++ m.map bv ++ X.drop (6 + 32)) = X.take 6 ++ m.map bv := fun X h => by rw [List.drop_eq_nil_of_le h, List.append_nil]
  rw [hx _ (Nat.le_of_ble_eq_true rfl)]
  rfl
theorem run_bld {T : TypeId} (w : World) (parts : List (Nat × Value)) (cs : Array Value) (h : Tryz.prog.built T parts = some cs) : (Instr.build T parts.toArray).run Tryz.prog w = .ok (.agg cs) w := run_build w _ _ _ h
def sel (K : List Hh) : List Key := (srtD (K.map hkey)).take 4
def selG (K : List Hh) : Int := most ((sel K).map fun k => min k.1 1073741824) + 1
def selL (K : List Hh) : List (List UInt8) := IdL.setL ((sel K).map fun k => k.2)
/-- What 'Next' comes to. -/
def NextPost (w : World) (K : List Hh) (T : ByteArray) (A Q Z : Int) (m : List UInt8) (e : Ending) (w' : World) : Prop :=
  (∃ v, bad K = some v ∧ e = .returned (.tuple #[.agg hz0, .int .i64 v]) ∧ Keep (fun _ => False) w w') ∨
  (bad K = none ∧ ((ck (selL K).length (selL K) (selG K) T A Q Z ≠ 0 ∧ e = .returned (.tuple #[.agg hz0, .int .i64 (ck (selL K).length (selL K) (selG K) T A Q Z)]) ∧ Keep (fun _ => False) w w') ∨
    (ck (selL K).length (selL K) (selG K) T A Q Z = 0 ∧ ∃ a c, e = .returned (.tuple #[.agg (hd (.slice a (selL K).length c) (selG K) T A Q Z m).toArray, .int .i64 0]) ∧ New w w' (.slice a (selL K).length c) (selL K))))
theorem low_nk (N : List Nm) : ((N.map (·.h)).map low) = (N.map nk).map fun k => min k.1 1073741824 := by
  rw [List.map_map, List.map_map]; rfl
theorem sel_of {K : List Hh} {N : List Nm} (h : N.map nk = srtD (K.map hkey)) {q : Nat} (hq : q = min N.length 4) : hgt ((N.take q).map (·.h)) = selG K ∧ IdL.setL ((N.take q).map (·.id)) = selL K := by
  have e : N.take q = N.take 4 := by
    rcases Nat.lt_or_ge N.length 4 with h4 | h4
    · rw [hq, Nat.min_eq_left (by omega), List.take_of_length_le (Nat.le_refl _), List.take_of_length_le (by omega)]
    · rw [hq, Nat.min_eq_right h4]
  have e2 : (N.take 4).map nk = sel K := by unfold sel; rw [← h, List.map_take]
  refine ⟨?_, ?_⟩
  · unfold hgt selG
    rw [e, low_nk, e2]
  · unfold selL
    rw [e, ← e2, List.map_map]
    rfl
theorem names_len {K : List Hh} {N : List Nm} (h : N.map nk = srtD (K.map hkey)) : N.length = K.length := by
  have := congrArg List.length h
  simpa [srtD] using this
theorem bad_ne {K : List Hh} {v : Int} (h : bad K = some v) : v ≠ 0 := by
  unfold bad at h
  cases hf : K.find? (fun x => hck x != 0) with
  | none => rw [hf] at h; cases h
  | some x =>
    rw [hf] at h
    have h1 := List.find?_some hf
    have h2 : hck x = v := Option.some.inj h
    rw [← h2]
    simpa using h1
theorem names_bad {w w' : World} {K : List Hh} {e : Ending} {v : Int} (hb : bad K = some v) (h : NamesPost w K e w') : e = .returned (.tuple #[.slice none 0 0, .int .i64 v]) ∧ Keep (fun _ => False) w w' := by
  rcases h with ⟨v', h1, h2, h3⟩ | ⟨h1, _⟩
  · rw [hb] at h1; cases h1; exact ⟨h2, h3⟩
  · rw [hb] at h1; cases h1
theorem names_good {w w' : World} {K : List Hh} {e : Ending} (hb : bad K = none) (h : NamesPost w K e w') : ∃ v N, e = .returned (.tuple #[v, .int .i64 0]) ∧ M (fun _ => False) w w' [rows 60 70 ne v N] ∧ N.map nk = srtD (K.map hkey) ∧ ∀ x ∈ N, x.h ∈ K := by
  rcases h with ⟨v', h1, _⟩ | ⟨_, h2⟩
  · rw [hb] at h1; cases h1
  · exact h2
theorem nm_hd {w : World} {b : Nat} {x : Nm} {t : TypeId} {fr : Nat × Nat} (h : w.heap[b]? = some (.cells (ne x).toArray t fr)) : w.rangeAt b 0 (he x.h) := fun j v hj => by
  rw [cell_of h, List.getElem?_toArray, Nat.zero_add]
  unfold ne
  rw [List.getElem?_append_left (List.getElem?_eq_some_iff.1 hj).1]
  exact hj
theorem iat {w : World} {a : Option Addr} {n c : Nat} {l : List (List UInt8)} (h : Own w (.slice a n c) l) : At w a n l := by
  obtain ⟨a', c', e, hat, _⟩ := h.at
  simp only [Value.slice.injEq] at e
  obtain ⟨rfl, rfl, rfl⟩ := e
  exact hat
theorem hat {α : Type} {T : TypeId} {n : Nat} {enc : α → List Value} {w : World} {a : Option Addr} {q c : Nat} {L : List α} (h : St.Own T n enc w (.slice a q c) L) : St.At n enc w a q L := by
  obtain ⟨rfl, hat⟩ := h.slice
  exact hat
theorem newOf {w w' : World} {l : List It} (h : M (fun _ => False) w w' l) (i : Nat) {v : Value} {L : List (List UInt8)} (hi : l[i]? = some (ids v L)) : New w w' v L := ⟨h.get i hi, h.keep, fun k hk => (h.rng i _ hi k hk).1.resolve_right (fun h => h)⟩
theorem hd_sz' {p : Value} {G : Int} {T : ByteArray} {A Q Z : Int} {m : List UInt8} (hm : m.length = 32) : (hd p G T A Q Z m).toArray.size = 38 := by rw [List.size_toArray]; exact hd_len _ _ _ _ _ _ _ hm
set_option maxRecDepth 100000 in
set_option maxHeartbeats 4000000 in
theorem next_bad (w : World) (hF : Sha.TabF w) (hKt : Sha.TabK w) (a : Option Addr) (n c : Nat) (K : List Hh) (hA : St.At 38 he w a n K) (hk : ∀ x ∈ K, Hok w x) (hn : n ≤ 20) (T : ByteArray) (A Q Z : Int) (m : List UInt8) (v : Int) (hb : bad K = some v) :
    Calls Tryz.prog 8 #[.slice a n c, .string T, .int .i64 A, .int .i64 Q, .int .i64 Z, idv m] w (NextPost w K T A Q Z m) := by
  have HNm : Hid (∀ w', Keep (fun _ => False) w w' → Calls Tryz.prog 27 #[.slice a n c] w' fun e w'' => e = .returned (.tuple #[.slice none 0 0, .int .i64 v]) ∧ Keep (fun _ => False) w' w'') := fun w' k => (names_any w' (hF.keep k (fun h => h)) (hKt.keep k (fun h => h)) a n c K (hA.calm k) (fun x hx => (hk x hx).calm k) hn).mono fun e w'' h => names_bad hb h
  have HM : Hid (M (fun _ => False) w _ [blk w.heap.size (.cells (m.map bv).toArray 24), blk (w.heap.size + 1) (.cells hz0 28)]) := ((M.start _ w).alloc (.cells (m.map bv).toArray 24) rfl).alloc (.cells hz0 28) (by simp)
  have h1 : (v != 0) = true := by have := bad_ne hb; simpa using this
  have HB : Hid (bad K = some v) := hb
  clear hA hk hF hKt hb
  go_enter Tryz.func8, Tryz.ntmps8
  go_wp2_with (first | (refine St.wl_alloc tyH rfl rfl (by (try simp only [World.size_alloc]); rfl) ?_; simp only [Act.put, List.setIfInBounds_toArray, List.set_cons_zero, List.set_cons_succ]) | (go_at_call 27; refine (HNm.out _ HM.out.keep).mono ?_; rintro e w1 ⟨rfl, k1⟩; have HM : Hid _ := HM.out.calm k1; clear k1) | (refine St.wl_buildV (T := 28) (parts := #[]) rfl rfl (cs := hz0) (by kernel_rfl) ?_; simp only [Act.put, List.setIfInBounds_toArray, List.set_cons_zero, List.set_cons_succ]) | (refine St.wl_store tyH rfl rfl rfl rfl rfl (cs := hz0) rfl (hd_one _ _ _ _ _ _ _ _ _) (HM.out.get 1 rfl) rfl ?_; have HM : Hid _ := HM.out.setr 1 rfl hz0))
  refine bodyPost_ret (St.res2 tyH rfl _ _ _ hz0 rfl rfl (HM.out.get 1 rfl) _ rfl) rfl ?_
  exact .inl ⟨v, HB.out, rfl, HM.out.keep⟩
set_option maxRecDepth 100000 in
set_option maxHeartbeats 8000000 in
theorem next_good (w : World) (hF : Sha.TabF w) (hKt : Sha.TabK w) (a : Option Addr) (n c : Nat) (K : List Hh) (hA : St.At 38 he w a n K) (hk : ∀ x ∈ K, Hok w x) (hn : n ≤ 20) (T : ByteArray) (A Q Z : Int) (m : List UInt8) (hm : m.length = 32) (hT : T.size ≤ maxLen) (hb : bad K = none) (hn0 : 0 < n) :
    Calls Tryz.prog 8 #[.slice a n c, .string T, .int .i64 A, .int .i64 Q, .int .i64 Z, idv m] w (NextPost w K T A Q Z m) := by
  have HNm : Hid (∀ w', Keep (fun _ => False) w w' → Calls Tryz.prog 27 #[.slice a n c] w' fun e w'' => ∃ v N, e = .returned (.tuple #[v, .int .i64 0]) ∧ M (fun _ => False) w' w'' [rows 60 70 ne v N] ∧ N.map nk = srtD (K.map hkey) ∧ ∀ x ∈ N, x.h ∈ K) := fun w' k => (names_any w' (hF.keep k (fun h => h)) (hKt.keep k (fun h => h)) a n c K (hA.calm k) (fun x hx => (hk x hx).calm k) hn).mono fun e w'' h => names_good hb h
  have HM : Hid (M (fun _ => False) w _ [blk w.heap.size (.cells (m.map bv).toArray 24), blk (w.heap.size + 1) (.cells hz0 28)]) := ((M.start _ w).alloc (.cells (m.map bv).toArray 24) rfl).alloc (.cells hz0 28) (by simp)
  have HB : Hid (bad K = none) := hb
  have Hm : Hid (m.length = 32) := hm
  have HT : Hid (T.size ≤ maxLen) := hT
  have HKl : Hid (K.length = n) := hA.len
  obtain ⟨q, hq⟩ : ∃ q, min n 4 = q := ⟨_, rfl⟩
  have hq4 : q ≤ 4 := by omega
  have hqn : q ≤ n := by omega
  have hmin : min (n : Int) 4 = (q : Int) := by omega
  have Hq : Hid (q = min n 4) := hq.symm
  have HCk : Hid (∀ w' n' a' c' l G, At w' a' n' l → n' ≤ 1000000 → Calls Tryz.prog 30 #[.agg (hd (.slice a' n' c') G T A Q Z m).toArray] w' fun e w'' => e = .returned (.int .i64 (ck n' l G T A Q Z)) ∧ Keep (fun _ => False) w' w'') := fun w' n' a' c' l G h h2 => check_any w' a' n' c' l G T A Q Z m h Hm.out h2 HT.out _ rfl
  clear hA hk hF hKt hb hm hT hq
  go_enter Tryz.func8, Tryz.ntmps8
  go_wp2_with (first | (refine St.wl_alloc tyH rfl rfl (by (try simp only [World.size_alloc]); rfl) ?_; simp only [Act.put, List.setIfInBounds_toArray, List.set_cons_zero, List.set_cons_succ]) | (go_at_call 27; refine (HNm.out _ HM.out.keep).mono ?_; rintro e w1 ⟨v0, N, rfl, m1, hnk, hNK⟩; have HNl : Hid (N.length = n) := (names_len hnk).trans HKl.out; obtain ⟨g, c5, e5, h5c, h5m, _⟩ := Px.own_some (show NOwn w1 v0 N from m1.get 0 rfl) (by rw [HNl.out]; exact hn0); rw [HNl.out] at e5 h5c; subst e5; have Hnk : Hid _ := hnk; have HM : Hid _ := HM.out.then m1; clear m1 hnk hNK; unfold maxLen at h5m))
  have HM : Hid _ := (HM.out.nilR 28 38 he).nilI
  have HSG : Hid (hgt ((N.take q).map (·.h)) = selG K) := (sel_of Hnk.out (by rw [HNl.out]; exact Hq.out)).1
  have HSL : Hid (IdL.setL ((N.take q).map (·.id)) = selL K) := (sel_of Hnk.out (by rw [HNl.out]; exact Hq.out)).2
  obtain ⟨sg, hsg⟩ : ∃ s, selG K = s := ⟨_, rfl⟩
  obtain ⟨sl, hsl⟩ : ∃ s, selL K = s := ⟨_, rfl⟩
  have Hsg : Hid (selG K = sg) := hsg
  have Hsl : Hid (selL K = sl) := hsl
  rw [hsg] at HSG
  rw [hsl] at HSL
  have Hsn : Hid (sl.length ≤ 20) := by
    show _ ≤ _
    rw [← HSL.out]
    refine Nat.le_trans (IdL.setL_len _) ?_
    rw [List.length_map, List.length_take]
    omega
  clear hsg hsl
  go_loopw [16, 17, 37] (fun s16 s17 i wr => ∃ (k : Nat) (v1 v2 : Value), k ≤ q ∧ i = .int .i64 k ∧ s16 = v1 ∧ s17 = v2 ∧ M (fun _ => False) w wr [blk w.heap.size (.cells (m.map bv).toArray 24), blk (w.heap.size + 1) (.cells hz0 28), rows 60 70 ne (.slice (some ⟨g, 0, none⟩) n c5) N, rows 28 38 he v1 ((N.take k).map (·.h)), ids v2 ((N.take k).map (·.id))]) (fun _ _ i _ => q - (intOf i).toNat)
  case atStart => exact ⟨0, _, _, Nat.zero_le _, rfl, rfl, rfl, HM.out⟩
  case round =>
    clear HM
    obtain ⟨k, v1, v2, hkq, rfl, hv1, hv2, hM⟩ := hrel
    replace hv1 := hv1.symm
    replace hv2 := hv2.symm
    subst hv1 hv2
    have HM : Hid _ := hM
    clear hM
    by_cases hlt : k < q
    · obtain ⟨x, hx⟩ : ∃ x, N[k]? = some x := ⟨_, List.getElem?_eq_getElem (by rw [HNl.out]; omega)⟩
      have R1 : Hid (wr.rangeAt g (k * 70) (ne x)) := nrange (HM.out.get 2 rfl) hx
      have E1 : Hid ((N.take (k + 1)).map (·.h) = (N.take k).map (·.h) ++ [x.h]) := by show _ = _; rw [take_snoc hx, List.map_append]; rfl
      have E2 : Hid ((N.take (k + 1)).map (·.id) = (N.take k).map (·.id) ++ [x.id]) := by show _ = _; rw [take_snoc hx, List.map_append]; rfl
      have Hl1 : Hid (((N.take k).map (·.h)).length ≤ 1000000) := by show _ ≤ _; rw [List.length_map, List.length_take]; omega
      have Hl2 : Hid (((N.take k).map (·.id)).length ≤ 1000000) := by show _ ≤ _; rw [List.length_map, List.length_take]; omega
      clear hx
      go_wp2_with (first | ((with_reducible refine at_load 60 ?_); refine St.wl_load tyN (by rfl) rfl rfl R1.out (encNe.len x) ?_; simp only [Act.put, List.setIfInBounds_toArray, List.set_cons_zero, List.set_cons_succ]) | (refine St.wl_alloc tyN rfl rfl (by (try simp only [World.size_alloc]); rfl) ?_; simp only [Act.put, List.setIfInBounds_toArray, List.set_cons_zero, List.set_cons_succ]) | (refine St.wl_storeN (W := wr) tyN rfl rfl rfl rfl rfl rfl (show _ = Value.agg (ne x).toArray from rfl) (ne_sz x) rfl (encNe.all x) ?_; have HM : Hid _ := HM.out.alloc (.cells (ne x).toArray 60) rfl))
      refine Txt.region_to (fun a a' w' => ∃ u44 u49 v1' v2' : Value, a' = ((((((((((((a.put (some 41) (v1)).put (some 42) (.pointer (some ⟨wr.heap.size, 0, none⟩))).put (some 43) (.agg (he x.h).toArray)).put (some 44) (u44)).put (some 45) (v1')).put (some 46) (v2)).put (some 47) (.pointer (some ⟨wr.heap.size, 38, none⟩))).put (some 48) (idv x.id)).put (some 49) (u49)).put (some 50) (v2')).put (some 16) (v1')).put (some 17) (v2')) ∧ Hid (M (fun _ => False) w w' [blk w.heap.size (.cells (m.map bv).toArray 24), blk (w.heap.size + 1) (.cells hz0 28), rows 60 70 ne (.slice (some ⟨g, 0, none⟩) n c5) N, rows 28 38 he v1' ((N.take k).map (·.h) ++ [x.h]), ids v2' ((N.take k).map (·.id) ++ [x.id])])) ?_ ?_
      · refine wp_region_any (by kernel_rfl) ?_
        change wpAny _ _ _ _ _ _ _ (World.drew _)
        have HM : Hid _ := HM.out.drew
        refine wpAny_take (i := 0) (v := ?_) rfl (by kernel_rfl) (by kernel_rfl) (by kernel_rfl) (fun _ _ _ h => by cases h.1) (Or.inl ⟨by rfl, ?_⟩) ?_; rotate_left; (focus (intro w; go_simp; try with_reducible rfl)); simp only [Act.put, List.setIfInBounds_toArray, List.set_cons_zero, List.set_cons_succ]
        refine wpAny_take (i := 1) (v := ?_) rfl (by kernel_rfl) (by kernel_rfl) (by kernel_rfl) (fun _ _ _ h => by cases h.1) (Or.inl ⟨by rfl, ?_⟩) ?_; rotate_left; (focus (intro w; go_simp; try with_reducible rfl)); simp only [Act.put, List.setIfInBounds_toArray, List.set_cons_zero, List.set_cons_succ]
        refine wpAny_take (i := 5) (v := ?_) rfl (by kernel_rfl) (by kernel_rfl) (by kernel_rfl) (fun _ _ _ h => by cases h.1) (Or.inl ⟨by rfl, ?_⟩) ?_; rotate_left; (focus (intro w; go_simp; try with_reducible rfl)); simp only [Act.put, List.setIfInBounds_toArray, List.set_cons_zero, List.set_cons_succ]
        refine wpAny_take (i := 6) (v := ?_) rfl (by kernel_rfl) (by kernel_rfl) (by kernel_rfl) (fun _ _ _ h => by cases h.1) (Or.inl ⟨by rfl, ?_⟩) ?_; rotate_left; (focus (intro w; go_simp; try with_reducible rfl)); simp only [Act.put, List.setIfInBounds_toArray, List.set_cons_zero, List.set_cons_succ]
        refine Txt.any2 2 7 (by decide) (by decide) (by kernel_rfl) (by kernel_rfl) ?_ ?_
        · simp only [List.getElem_toArray, List.getElem_cons_succ, List.getElem_cons_zero]
          refine Txt.wp_ldN (n := 38) (ty := 28) rfl rfl (nm_hd (HM.out.get 5 rfl)) (by kernel_rfl) (he_len x.h) ?_; simp only [Act.put, List.setIfInBounds_toArray, List.set_cons_zero, List.set_cons_succ]
          refine Txt.any2 3 7 (by decide) (by decide) (by kernel_rfl) (by kernel_rfl) ?_ ?_
          · simp only [List.getElem_toArray, List.getElem_cons_succ, List.getElem_cons_zero]
            refine St.wp_build slHe (by decide) rfl (he_len x.h) rfl ?_; have HM : Hid _ := HM.out.alloc (.cells (he x.h).toArray 28) rfl; simp only [Act.put, List.setIfInBounds_toArray, List.set_cons_zero, List.set_cons_succ]
            refine Txt.any2 4 7 (by decide) (by decide) (by kernel_rfl) (by kernel_rfl) ?_ ?_
            · simp only [List.getElem_toArray, List.getElem_cons_succ, List.getElem_cons_zero]
              first | (refine St.wp_app1 slHe (by decide) rfl rfl (HM.out.get 3 rfl) rfl (he_len x.h) (he_one x.h) (HM.out.get 6 rfl) Hl1.out ?_; intro v7 w7 h7 k7 g7; have HM : Hid _ := HM.out.appR 3 rfl h7 k7 g7; clear h7 k7 g7; simp only [Act.put, List.setIfInBounds_toArray, List.set_cons_zero, List.set_cons_succ]) | (refine St.wp_app1 slHe (by decide) rfl rfl (HM.out.get 3 rfl) rfl (he_len x.h) (he_one x.h) (HM.out.get 7 rfl) Hl1.out ?_; intro v7 w7 h7 k7 g7; have HM : Hid _ := HM.out.appR 3 rfl h7 k7 g7; clear h7 k7 g7; simp only [Act.put, List.setIfInBounds_toArray, List.set_cons_zero, List.set_cons_succ])
              refine Txt.any1 7 (by decide) (by kernel_rfl) (by kernel_rfl) ?_
              simp only [List.getElem_toArray, List.getElem_cons_succ, List.getElem_cons_zero]
              refine Txt.wp_ldN (n := 32) (ty := 24) rfl rfl (nm_id (HM.out.get 5 rfl)) (by kernel_rfl) (by rw [List.length_map]; exact x.hid) ?_; simp only [Act.put, List.setIfInBounds_toArray, List.set_cons_zero, List.set_cons_succ]
              refine Txt.any1 8 (by decide) (by kernel_rfl) (by kernel_rfl) ?_
              simp only [List.getElem_toArray, List.getElem_cons_succ, List.getElem_cons_zero]
              refine Ids.wp_build rfl x.hid rfl ?_; have HM : Hid _ := HM.out.alloc (.cells (x.id.map bv).toArray 24) rfl; simp only [Act.put, List.setIfInBounds_toArray, List.set_cons_zero, List.set_cons_succ]
              refine Txt.any1 9 (by decide) (by kernel_rfl) (by kernel_rfl) ?_
              simp only [List.getElem_toArray, List.getElem_cons_succ, List.getElem_cons_zero]
              first | (refine Ids.wp_app1 rfl rfl (HM.out.get 4 rfl) rfl x.hid (HM.out.get 6 rfl) Hl2.out ?_; intro v8 w8 h8 k8 g8; have HM : Hid _ := HM.out.appI 4 rfl h8 k8 g8; clear h8 k8 g8; simp only [Act.put, List.setIfInBounds_toArray, List.set_cons_zero, List.set_cons_succ]) | (refine Ids.wp_app1 rfl rfl (HM.out.get 4 rfl) rfl x.hid (HM.out.get 7 rfl) Hl2.out ?_; intro v8 w8 h8 k8 g8; have HM : Hid _ := HM.out.appI 4 rfl h8 k8 g8; clear h8 k8 g8; simp only [Act.put, List.setIfInBounds_toArray, List.set_cons_zero, List.set_cons_succ])
              refine wpAny_take (i := 10) (v := ?_) rfl (by kernel_rfl) (by kernel_rfl) (by kernel_rfl) (fun _ _ _ h => by cases h.1) (Or.inl ⟨by rfl, ?_⟩) ?_; rotate_left; (focus (intro w; go_simp; try with_reducible rfl)); simp only [Act.put, List.setIfInBounds_toArray, List.set_cons_zero, List.set_cons_succ]
              refine wpAny_take (i := 11) (v := ?_) rfl (by kernel_rfl) (by kernel_rfl) (by kernel_rfl) (fun _ _ _ h => by cases h.1) (Or.inl ⟨by rfl, ?_⟩) ?_; rotate_left; (focus (intro w; go_simp; try with_reducible rfl)); simp only [Act.put, List.setIfInBounds_toArray, List.set_cons_zero, List.set_cons_succ]
              refine wpAny_done (by kernel_rfl) ?_ _
              refine ⟨rfl, ?_⟩
              exact ⟨_, _, _, _, rfl, HM.out.sub _ [0, 1, 2, 3, 4] (by decide) rfl⟩
            · simp only [List.getElem_toArray, List.getElem_cons_succ, List.getElem_cons_zero]
              refine Txt.wp_ldN (n := 32) (ty := 24) rfl rfl (nm_id (HM.out.get 5 rfl)) (by kernel_rfl) (by rw [List.length_map]; exact x.hid) ?_; simp only [Act.put, List.setIfInBounds_toArray, List.set_cons_zero, List.set_cons_succ]
              refine Txt.any2 4 8 (by decide) (by decide) (by kernel_rfl) (by kernel_rfl) ?_ ?_
              · simp only [List.getElem_toArray, List.getElem_cons_succ, List.getElem_cons_zero]
                first | (refine St.wp_app1 slHe (by decide) rfl rfl (HM.out.get 3 rfl) rfl (he_len x.h) (he_one x.h) (HM.out.get 6 rfl) Hl1.out ?_; intro v7 w7 h7 k7 g7; have HM : Hid _ := HM.out.appR 3 rfl h7 k7 g7; clear h7 k7 g7; simp only [Act.put, List.setIfInBounds_toArray, List.set_cons_zero, List.set_cons_succ]) | (refine St.wp_app1 slHe (by decide) rfl rfl (HM.out.get 3 rfl) rfl (he_len x.h) (he_one x.h) (HM.out.get 7 rfl) Hl1.out ?_; intro v7 w7 h7 k7 g7; have HM : Hid _ := HM.out.appR 3 rfl h7 k7 g7; clear h7 k7 g7; simp only [Act.put, List.setIfInBounds_toArray, List.set_cons_zero, List.set_cons_succ])
                refine Txt.any1 8 (by decide) (by kernel_rfl) (by kernel_rfl) ?_
                simp only [List.getElem_toArray, List.getElem_cons_succ, List.getElem_cons_zero]
                refine Ids.wp_build rfl x.hid rfl ?_; have HM : Hid _ := HM.out.alloc (.cells (x.id.map bv).toArray 24) rfl; simp only [Act.put, List.setIfInBounds_toArray, List.set_cons_zero, List.set_cons_succ]
                refine Txt.any1 9 (by decide) (by kernel_rfl) (by kernel_rfl) ?_
                simp only [List.getElem_toArray, List.getElem_cons_succ, List.getElem_cons_zero]
                first | (refine Ids.wp_app1 rfl rfl (HM.out.get 4 rfl) rfl x.hid (HM.out.get 6 rfl) Hl2.out ?_; intro v8 w8 h8 k8 g8; have HM : Hid _ := HM.out.appI 4 rfl h8 k8 g8; clear h8 k8 g8; simp only [Act.put, List.setIfInBounds_toArray, List.set_cons_zero, List.set_cons_succ]) | (refine Ids.wp_app1 rfl rfl (HM.out.get 4 rfl) rfl x.hid (HM.out.get 7 rfl) Hl2.out ?_; intro v8 w8 h8 k8 g8; have HM : Hid _ := HM.out.appI 4 rfl h8 k8 g8; clear h8 k8 g8; simp only [Act.put, List.setIfInBounds_toArray, List.set_cons_zero, List.set_cons_succ])
                refine wpAny_take (i := 10) (v := ?_) rfl (by kernel_rfl) (by kernel_rfl) (by kernel_rfl) (fun _ _ _ h => by cases h.1) (Or.inl ⟨by rfl, ?_⟩) ?_; rotate_left; (focus (intro w; go_simp; try with_reducible rfl)); simp only [Act.put, List.setIfInBounds_toArray, List.set_cons_zero, List.set_cons_succ]
                refine wpAny_take (i := 11) (v := ?_) rfl (by kernel_rfl) (by kernel_rfl) (by kernel_rfl) (fun _ _ _ h => by cases h.1) (Or.inl ⟨by rfl, ?_⟩) ?_; rotate_left; (focus (intro w; go_simp; try with_reducible rfl)); simp only [Act.put, List.setIfInBounds_toArray, List.set_cons_zero, List.set_cons_succ]
                refine wpAny_done (by kernel_rfl) ?_ _
                refine ⟨rfl, ?_⟩
                exact ⟨_, _, _, _, rfl, HM.out.sub _ [0, 1, 2, 3, 4] (by decide) rfl⟩
              · simp only [List.getElem_toArray, List.getElem_cons_succ, List.getElem_cons_zero]
                refine Ids.wp_build rfl x.hid rfl ?_; have HM : Hid _ := HM.out.alloc (.cells (x.id.map bv).toArray 24) rfl; simp only [Act.put, List.setIfInBounds_toArray, List.set_cons_zero, List.set_cons_succ]
                refine Txt.any1 4 (by decide) (by kernel_rfl) (by kernel_rfl) ?_
                simp only [List.getElem_toArray, List.getElem_cons_succ, List.getElem_cons_zero]
                first | (refine St.wp_app1 slHe (by decide) rfl rfl (HM.out.get 3 rfl) rfl (he_len x.h) (he_one x.h) (HM.out.get 6 rfl) Hl1.out ?_; intro v7 w7 h7 k7 g7; have HM : Hid _ := HM.out.appR 3 rfl h7 k7 g7; clear h7 k7 g7; simp only [Act.put, List.setIfInBounds_toArray, List.set_cons_zero, List.set_cons_succ]) | (refine St.wp_app1 slHe (by decide) rfl rfl (HM.out.get 3 rfl) rfl (he_len x.h) (he_one x.h) (HM.out.get 7 rfl) Hl1.out ?_; intro v7 w7 h7 k7 g7; have HM : Hid _ := HM.out.appR 3 rfl h7 k7 g7; clear h7 k7 g7; simp only [Act.put, List.setIfInBounds_toArray, List.set_cons_zero, List.set_cons_succ])
                refine Txt.any1 9 (by decide) (by kernel_rfl) (by kernel_rfl) ?_
                simp only [List.getElem_toArray, List.getElem_cons_succ, List.getElem_cons_zero]
                first | (refine Ids.wp_app1 rfl rfl (HM.out.get 4 rfl) rfl x.hid (HM.out.get 6 rfl) Hl2.out ?_; intro v8 w8 h8 k8 g8; have HM : Hid _ := HM.out.appI 4 rfl h8 k8 g8; clear h8 k8 g8; simp only [Act.put, List.setIfInBounds_toArray, List.set_cons_zero, List.set_cons_succ]) | (refine Ids.wp_app1 rfl rfl (HM.out.get 4 rfl) rfl x.hid (HM.out.get 7 rfl) Hl2.out ?_; intro v8 w8 h8 k8 g8; have HM : Hid _ := HM.out.appI 4 rfl h8 k8 g8; clear h8 k8 g8; simp only [Act.put, List.setIfInBounds_toArray, List.set_cons_zero, List.set_cons_succ])
                refine wpAny_take (i := 10) (v := ?_) rfl (by kernel_rfl) (by kernel_rfl) (by kernel_rfl) (fun _ _ _ h => by cases h.1) (Or.inl ⟨by rfl, ?_⟩) ?_; rotate_left; (focus (intro w; go_simp; try with_reducible rfl)); simp only [Act.put, List.setIfInBounds_toArray, List.set_cons_zero, List.set_cons_succ]
                refine wpAny_take (i := 11) (v := ?_) rfl (by kernel_rfl) (by kernel_rfl) (by kernel_rfl) (fun _ _ _ h => by cases h.1) (Or.inl ⟨by rfl, ?_⟩) ?_; rotate_left; (focus (intro w; go_simp; try with_reducible rfl)); simp only [Act.put, List.setIfInBounds_toArray, List.set_cons_zero, List.set_cons_succ]
                refine wpAny_done (by kernel_rfl) ?_ _
                refine ⟨rfl, ?_⟩
                exact ⟨_, _, _, _, rfl, HM.out.sub _ [0, 1, 2, 3, 4] (by decide) rfl⟩
          · simp only [List.getElem_toArray, List.getElem_cons_succ, List.getElem_cons_zero]
            refine Txt.wp_ldN (n := 32) (ty := 24) rfl rfl (nm_id (HM.out.get 5 rfl)) (by kernel_rfl) (by rw [List.length_map]; exact x.hid) ?_; simp only [Act.put, List.setIfInBounds_toArray, List.set_cons_zero, List.set_cons_succ]
            refine Txt.any2 3 8 (by decide) (by decide) (by kernel_rfl) (by kernel_rfl) ?_ ?_
            · simp only [List.getElem_toArray, List.getElem_cons_succ, List.getElem_cons_zero]
              refine St.wp_build slHe (by decide) rfl (he_len x.h) rfl ?_; have HM : Hid _ := HM.out.alloc (.cells (he x.h).toArray 28) rfl; simp only [Act.put, List.setIfInBounds_toArray, List.set_cons_zero, List.set_cons_succ]
              refine Txt.any2 4 8 (by decide) (by decide) (by kernel_rfl) (by kernel_rfl) ?_ ?_
              · simp only [List.getElem_toArray, List.getElem_cons_succ, List.getElem_cons_zero]
                first | (refine St.wp_app1 slHe (by decide) rfl rfl (HM.out.get 3 rfl) rfl (he_len x.h) (he_one x.h) (HM.out.get 6 rfl) Hl1.out ?_; intro v7 w7 h7 k7 g7; have HM : Hid _ := HM.out.appR 3 rfl h7 k7 g7; clear h7 k7 g7; simp only [Act.put, List.setIfInBounds_toArray, List.set_cons_zero, List.set_cons_succ]) | (refine St.wp_app1 slHe (by decide) rfl rfl (HM.out.get 3 rfl) rfl (he_len x.h) (he_one x.h) (HM.out.get 7 rfl) Hl1.out ?_; intro v7 w7 h7 k7 g7; have HM : Hid _ := HM.out.appR 3 rfl h7 k7 g7; clear h7 k7 g7; simp only [Act.put, List.setIfInBounds_toArray, List.set_cons_zero, List.set_cons_succ])
                refine Txt.any1 8 (by decide) (by kernel_rfl) (by kernel_rfl) ?_
                simp only [List.getElem_toArray, List.getElem_cons_succ, List.getElem_cons_zero]
                refine Ids.wp_build rfl x.hid rfl ?_; have HM : Hid _ := HM.out.alloc (.cells (x.id.map bv).toArray 24) rfl; simp only [Act.put, List.setIfInBounds_toArray, List.set_cons_zero, List.set_cons_succ]
                refine Txt.any1 9 (by decide) (by kernel_rfl) (by kernel_rfl) ?_
                simp only [List.getElem_toArray, List.getElem_cons_succ, List.getElem_cons_zero]
                first | (refine Ids.wp_app1 rfl rfl (HM.out.get 4 rfl) rfl x.hid (HM.out.get 6 rfl) Hl2.out ?_; intro v8 w8 h8 k8 g8; have HM : Hid _ := HM.out.appI 4 rfl h8 k8 g8; clear h8 k8 g8; simp only [Act.put, List.setIfInBounds_toArray, List.set_cons_zero, List.set_cons_succ]) | (refine Ids.wp_app1 rfl rfl (HM.out.get 4 rfl) rfl x.hid (HM.out.get 7 rfl) Hl2.out ?_; intro v8 w8 h8 k8 g8; have HM : Hid _ := HM.out.appI 4 rfl h8 k8 g8; clear h8 k8 g8; simp only [Act.put, List.setIfInBounds_toArray, List.set_cons_zero, List.set_cons_succ])
                refine wpAny_take (i := 10) (v := ?_) rfl (by kernel_rfl) (by kernel_rfl) (by kernel_rfl) (fun _ _ _ h => by cases h.1) (Or.inl ⟨by rfl, ?_⟩) ?_; rotate_left; (focus (intro w; go_simp; try with_reducible rfl)); simp only [Act.put, List.setIfInBounds_toArray, List.set_cons_zero, List.set_cons_succ]
                refine wpAny_take (i := 11) (v := ?_) rfl (by kernel_rfl) (by kernel_rfl) (by kernel_rfl) (fun _ _ _ h => by cases h.1) (Or.inl ⟨by rfl, ?_⟩) ?_; rotate_left; (focus (intro w; go_simp; try with_reducible rfl)); simp only [Act.put, List.setIfInBounds_toArray, List.set_cons_zero, List.set_cons_succ]
                refine wpAny_done (by kernel_rfl) ?_ _
                refine ⟨rfl, ?_⟩
                exact ⟨_, _, _, _, rfl, HM.out.sub _ [0, 1, 2, 3, 4] (by decide) rfl⟩
              · simp only [List.getElem_toArray, List.getElem_cons_succ, List.getElem_cons_zero]
                refine Ids.wp_build rfl x.hid rfl ?_; have HM : Hid _ := HM.out.alloc (.cells (x.id.map bv).toArray 24) rfl; simp only [Act.put, List.setIfInBounds_toArray, List.set_cons_zero, List.set_cons_succ]
                refine Txt.any1 4 (by decide) (by kernel_rfl) (by kernel_rfl) ?_
                simp only [List.getElem_toArray, List.getElem_cons_succ, List.getElem_cons_zero]
                first | (refine St.wp_app1 slHe (by decide) rfl rfl (HM.out.get 3 rfl) rfl (he_len x.h) (he_one x.h) (HM.out.get 6 rfl) Hl1.out ?_; intro v7 w7 h7 k7 g7; have HM : Hid _ := HM.out.appR 3 rfl h7 k7 g7; clear h7 k7 g7; simp only [Act.put, List.setIfInBounds_toArray, List.set_cons_zero, List.set_cons_succ]) | (refine St.wp_app1 slHe (by decide) rfl rfl (HM.out.get 3 rfl) rfl (he_len x.h) (he_one x.h) (HM.out.get 7 rfl) Hl1.out ?_; intro v7 w7 h7 k7 g7; have HM : Hid _ := HM.out.appR 3 rfl h7 k7 g7; clear h7 k7 g7; simp only [Act.put, List.setIfInBounds_toArray, List.set_cons_zero, List.set_cons_succ])
                refine Txt.any1 9 (by decide) (by kernel_rfl) (by kernel_rfl) ?_
                simp only [List.getElem_toArray, List.getElem_cons_succ, List.getElem_cons_zero]
                first | (refine Ids.wp_app1 rfl rfl (HM.out.get 4 rfl) rfl x.hid (HM.out.get 6 rfl) Hl2.out ?_; intro v8 w8 h8 k8 g8; have HM : Hid _ := HM.out.appI 4 rfl h8 k8 g8; clear h8 k8 g8; simp only [Act.put, List.setIfInBounds_toArray, List.set_cons_zero, List.set_cons_succ]) | (refine Ids.wp_app1 rfl rfl (HM.out.get 4 rfl) rfl x.hid (HM.out.get 7 rfl) Hl2.out ?_; intro v8 w8 h8 k8 g8; have HM : Hid _ := HM.out.appI 4 rfl h8 k8 g8; clear h8 k8 g8; simp only [Act.put, List.setIfInBounds_toArray, List.set_cons_zero, List.set_cons_succ])
                refine wpAny_take (i := 10) (v := ?_) rfl (by kernel_rfl) (by kernel_rfl) (by kernel_rfl) (fun _ _ _ h => by cases h.1) (Or.inl ⟨by rfl, ?_⟩) ?_; rotate_left; (focus (intro w; go_simp; try with_reducible rfl)); simp only [Act.put, List.setIfInBounds_toArray, List.set_cons_zero, List.set_cons_succ]
                refine wpAny_take (i := 11) (v := ?_) rfl (by kernel_rfl) (by kernel_rfl) (by kernel_rfl) (fun _ _ _ h => by cases h.1) (Or.inl ⟨by rfl, ?_⟩) ?_; rotate_left; (focus (intro w; go_simp; try with_reducible rfl)); simp only [Act.put, List.setIfInBounds_toArray, List.set_cons_zero, List.set_cons_succ]
                refine wpAny_done (by kernel_rfl) ?_ _
                refine ⟨rfl, ?_⟩
                exact ⟨_, _, _, _, rfl, HM.out.sub _ [0, 1, 2, 3, 4] (by decide) rfl⟩
            · simp only [List.getElem_toArray, List.getElem_cons_succ, List.getElem_cons_zero]
              refine Ids.wp_build rfl x.hid rfl ?_; have HM : Hid _ := HM.out.alloc (.cells (x.id.map bv).toArray 24) rfl; simp only [Act.put, List.setIfInBounds_toArray, List.set_cons_zero, List.set_cons_succ]
              refine Txt.any1 3 (by decide) (by kernel_rfl) (by kernel_rfl) ?_
              simp only [List.getElem_toArray, List.getElem_cons_succ, List.getElem_cons_zero]
              refine St.wp_build slHe (by decide) rfl (he_len x.h) rfl ?_; have HM : Hid _ := HM.out.alloc (.cells (he x.h).toArray 28) rfl; simp only [Act.put, List.setIfInBounds_toArray, List.set_cons_zero, List.set_cons_succ]
              refine Txt.any1 4 (by decide) (by kernel_rfl) (by kernel_rfl) ?_
              simp only [List.getElem_toArray, List.getElem_cons_succ, List.getElem_cons_zero]
              first | (refine St.wp_app1 slHe (by decide) rfl rfl (HM.out.get 3 rfl) rfl (he_len x.h) (he_one x.h) (HM.out.get 6 rfl) Hl1.out ?_; intro v7 w7 h7 k7 g7; have HM : Hid _ := HM.out.appR 3 rfl h7 k7 g7; clear h7 k7 g7; simp only [Act.put, List.setIfInBounds_toArray, List.set_cons_zero, List.set_cons_succ]) | (refine St.wp_app1 slHe (by decide) rfl rfl (HM.out.get 3 rfl) rfl (he_len x.h) (he_one x.h) (HM.out.get 7 rfl) Hl1.out ?_; intro v7 w7 h7 k7 g7; have HM : Hid _ := HM.out.appR 3 rfl h7 k7 g7; clear h7 k7 g7; simp only [Act.put, List.setIfInBounds_toArray, List.set_cons_zero, List.set_cons_succ])
              refine Txt.any1 9 (by decide) (by kernel_rfl) (by kernel_rfl) ?_
              simp only [List.getElem_toArray, List.getElem_cons_succ, List.getElem_cons_zero]
              first | (refine Ids.wp_app1 rfl rfl (HM.out.get 4 rfl) rfl x.hid (HM.out.get 6 rfl) Hl2.out ?_; intro v8 w8 h8 k8 g8; have HM : Hid _ := HM.out.appI 4 rfl h8 k8 g8; clear h8 k8 g8; simp only [Act.put, List.setIfInBounds_toArray, List.set_cons_zero, List.set_cons_succ]) | (refine Ids.wp_app1 rfl rfl (HM.out.get 4 rfl) rfl x.hid (HM.out.get 7 rfl) Hl2.out ?_; intro v8 w8 h8 k8 g8; have HM : Hid _ := HM.out.appI 4 rfl h8 k8 g8; clear h8 k8 g8; simp only [Act.put, List.setIfInBounds_toArray, List.set_cons_zero, List.set_cons_succ])
              refine wpAny_take (i := 10) (v := ?_) rfl (by kernel_rfl) (by kernel_rfl) (by kernel_rfl) (fun _ _ _ h => by cases h.1) (Or.inl ⟨by rfl, ?_⟩) ?_; rotate_left; (focus (intro w; go_simp; try with_reducible rfl)); simp only [Act.put, List.setIfInBounds_toArray, List.set_cons_zero, List.set_cons_succ]
              refine wpAny_take (i := 11) (v := ?_) rfl (by kernel_rfl) (by kernel_rfl) (by kernel_rfl) (fun _ _ _ h => by cases h.1) (Or.inl ⟨by rfl, ?_⟩) ?_; rotate_left; (focus (intro w; go_simp; try with_reducible rfl)); simp only [Act.put, List.setIfInBounds_toArray, List.set_cons_zero, List.set_cons_succ]
              refine wpAny_done (by kernel_rfl) ?_ _
              refine ⟨rfl, ?_⟩
              exact ⟨_, _, _, _, rfl, HM.out.sub _ [0, 1, 2, 3, 4] (by decide) rfl⟩
        · simp only [List.getElem_toArray, List.getElem_cons_succ, List.getElem_cons_zero]
          refine Txt.wp_ldN (n := 32) (ty := 24) rfl rfl (nm_id (HM.out.get 5 rfl)) (by kernel_rfl) (by rw [List.length_map]; exact x.hid) ?_; simp only [Act.put, List.setIfInBounds_toArray, List.set_cons_zero, List.set_cons_succ]
          refine Txt.any2 2 8 (by decide) (by decide) (by kernel_rfl) (by kernel_rfl) ?_ ?_
          · simp only [List.getElem_toArray, List.getElem_cons_succ, List.getElem_cons_zero]
            refine Txt.wp_ldN (n := 38) (ty := 28) rfl rfl (nm_hd (HM.out.get 5 rfl)) (by kernel_rfl) (he_len x.h) ?_; simp only [Act.put, List.setIfInBounds_toArray, List.set_cons_zero, List.set_cons_succ]
            refine Txt.any2 3 8 (by decide) (by decide) (by kernel_rfl) (by kernel_rfl) ?_ ?_
            · simp only [List.getElem_toArray, List.getElem_cons_succ, List.getElem_cons_zero]
              refine St.wp_build slHe (by decide) rfl (he_len x.h) rfl ?_; have HM : Hid _ := HM.out.alloc (.cells (he x.h).toArray 28) rfl; simp only [Act.put, List.setIfInBounds_toArray, List.set_cons_zero, List.set_cons_succ]
              refine Txt.any2 4 8 (by decide) (by decide) (by kernel_rfl) (by kernel_rfl) ?_ ?_
              · simp only [List.getElem_toArray, List.getElem_cons_succ, List.getElem_cons_zero]
                first | (refine St.wp_app1 slHe (by decide) rfl rfl (HM.out.get 3 rfl) rfl (he_len x.h) (he_one x.h) (HM.out.get 6 rfl) Hl1.out ?_; intro v7 w7 h7 k7 g7; have HM : Hid _ := HM.out.appR 3 rfl h7 k7 g7; clear h7 k7 g7; simp only [Act.put, List.setIfInBounds_toArray, List.set_cons_zero, List.set_cons_succ]) | (refine St.wp_app1 slHe (by decide) rfl rfl (HM.out.get 3 rfl) rfl (he_len x.h) (he_one x.h) (HM.out.get 7 rfl) Hl1.out ?_; intro v7 w7 h7 k7 g7; have HM : Hid _ := HM.out.appR 3 rfl h7 k7 g7; clear h7 k7 g7; simp only [Act.put, List.setIfInBounds_toArray, List.set_cons_zero, List.set_cons_succ])
                refine Txt.any1 8 (by decide) (by kernel_rfl) (by kernel_rfl) ?_
                simp only [List.getElem_toArray, List.getElem_cons_succ, List.getElem_cons_zero]
                refine Ids.wp_build rfl x.hid rfl ?_; have HM : Hid _ := HM.out.alloc (.cells (x.id.map bv).toArray 24) rfl; simp only [Act.put, List.setIfInBounds_toArray, List.set_cons_zero, List.set_cons_succ]
                refine Txt.any1 9 (by decide) (by kernel_rfl) (by kernel_rfl) ?_
                simp only [List.getElem_toArray, List.getElem_cons_succ, List.getElem_cons_zero]
                first | (refine Ids.wp_app1 rfl rfl (HM.out.get 4 rfl) rfl x.hid (HM.out.get 6 rfl) Hl2.out ?_; intro v8 w8 h8 k8 g8; have HM : Hid _ := HM.out.appI 4 rfl h8 k8 g8; clear h8 k8 g8; simp only [Act.put, List.setIfInBounds_toArray, List.set_cons_zero, List.set_cons_succ]) | (refine Ids.wp_app1 rfl rfl (HM.out.get 4 rfl) rfl x.hid (HM.out.get 7 rfl) Hl2.out ?_; intro v8 w8 h8 k8 g8; have HM : Hid _ := HM.out.appI 4 rfl h8 k8 g8; clear h8 k8 g8; simp only [Act.put, List.setIfInBounds_toArray, List.set_cons_zero, List.set_cons_succ])
                refine wpAny_take (i := 10) (v := ?_) rfl (by kernel_rfl) (by kernel_rfl) (by kernel_rfl) (fun _ _ _ h => by cases h.1) (Or.inl ⟨by rfl, ?_⟩) ?_; rotate_left; (focus (intro w; go_simp; try with_reducible rfl)); simp only [Act.put, List.setIfInBounds_toArray, List.set_cons_zero, List.set_cons_succ]
                refine wpAny_take (i := 11) (v := ?_) rfl (by kernel_rfl) (by kernel_rfl) (by kernel_rfl) (fun _ _ _ h => by cases h.1) (Or.inl ⟨by rfl, ?_⟩) ?_; rotate_left; (focus (intro w; go_simp; try with_reducible rfl)); simp only [Act.put, List.setIfInBounds_toArray, List.set_cons_zero, List.set_cons_succ]
                refine wpAny_done (by kernel_rfl) ?_ _
                refine ⟨rfl, ?_⟩
                exact ⟨_, _, _, _, rfl, HM.out.sub _ [0, 1, 2, 3, 4] (by decide) rfl⟩
              · simp only [List.getElem_toArray, List.getElem_cons_succ, List.getElem_cons_zero]
                refine Ids.wp_build rfl x.hid rfl ?_; have HM : Hid _ := HM.out.alloc (.cells (x.id.map bv).toArray 24) rfl; simp only [Act.put, List.setIfInBounds_toArray, List.set_cons_zero, List.set_cons_succ]
                refine Txt.any1 4 (by decide) (by kernel_rfl) (by kernel_rfl) ?_
                simp only [List.getElem_toArray, List.getElem_cons_succ, List.getElem_cons_zero]
                first | (refine St.wp_app1 slHe (by decide) rfl rfl (HM.out.get 3 rfl) rfl (he_len x.h) (he_one x.h) (HM.out.get 6 rfl) Hl1.out ?_; intro v7 w7 h7 k7 g7; have HM : Hid _ := HM.out.appR 3 rfl h7 k7 g7; clear h7 k7 g7; simp only [Act.put, List.setIfInBounds_toArray, List.set_cons_zero, List.set_cons_succ]) | (refine St.wp_app1 slHe (by decide) rfl rfl (HM.out.get 3 rfl) rfl (he_len x.h) (he_one x.h) (HM.out.get 7 rfl) Hl1.out ?_; intro v7 w7 h7 k7 g7; have HM : Hid _ := HM.out.appR 3 rfl h7 k7 g7; clear h7 k7 g7; simp only [Act.put, List.setIfInBounds_toArray, List.set_cons_zero, List.set_cons_succ])
                refine Txt.any1 9 (by decide) (by kernel_rfl) (by kernel_rfl) ?_
                simp only [List.getElem_toArray, List.getElem_cons_succ, List.getElem_cons_zero]
                first | (refine Ids.wp_app1 rfl rfl (HM.out.get 4 rfl) rfl x.hid (HM.out.get 6 rfl) Hl2.out ?_; intro v8 w8 h8 k8 g8; have HM : Hid _ := HM.out.appI 4 rfl h8 k8 g8; clear h8 k8 g8; simp only [Act.put, List.setIfInBounds_toArray, List.set_cons_zero, List.set_cons_succ]) | (refine Ids.wp_app1 rfl rfl (HM.out.get 4 rfl) rfl x.hid (HM.out.get 7 rfl) Hl2.out ?_; intro v8 w8 h8 k8 g8; have HM : Hid _ := HM.out.appI 4 rfl h8 k8 g8; clear h8 k8 g8; simp only [Act.put, List.setIfInBounds_toArray, List.set_cons_zero, List.set_cons_succ])
                refine wpAny_take (i := 10) (v := ?_) rfl (by kernel_rfl) (by kernel_rfl) (by kernel_rfl) (fun _ _ _ h => by cases h.1) (Or.inl ⟨by rfl, ?_⟩) ?_; rotate_left; (focus (intro w; go_simp; try with_reducible rfl)); simp only [Act.put, List.setIfInBounds_toArray, List.set_cons_zero, List.set_cons_succ]
                refine wpAny_take (i := 11) (v := ?_) rfl (by kernel_rfl) (by kernel_rfl) (by kernel_rfl) (fun _ _ _ h => by cases h.1) (Or.inl ⟨by rfl, ?_⟩) ?_; rotate_left; (focus (intro w; go_simp; try with_reducible rfl)); simp only [Act.put, List.setIfInBounds_toArray, List.set_cons_zero, List.set_cons_succ]
                refine wpAny_done (by kernel_rfl) ?_ _
                refine ⟨rfl, ?_⟩
                exact ⟨_, _, _, _, rfl, HM.out.sub _ [0, 1, 2, 3, 4] (by decide) rfl⟩
            · simp only [List.getElem_toArray, List.getElem_cons_succ, List.getElem_cons_zero]
              refine Ids.wp_build rfl x.hid rfl ?_; have HM : Hid _ := HM.out.alloc (.cells (x.id.map bv).toArray 24) rfl; simp only [Act.put, List.setIfInBounds_toArray, List.set_cons_zero, List.set_cons_succ]
              refine Txt.any1 3 (by decide) (by kernel_rfl) (by kernel_rfl) ?_
              simp only [List.getElem_toArray, List.getElem_cons_succ, List.getElem_cons_zero]
              refine St.wp_build slHe (by decide) rfl (he_len x.h) rfl ?_; have HM : Hid _ := HM.out.alloc (.cells (he x.h).toArray 28) rfl; simp only [Act.put, List.setIfInBounds_toArray, List.set_cons_zero, List.set_cons_succ]
              refine Txt.any1 4 (by decide) (by kernel_rfl) (by kernel_rfl) ?_
              simp only [List.getElem_toArray, List.getElem_cons_succ, List.getElem_cons_zero]
              first | (refine St.wp_app1 slHe (by decide) rfl rfl (HM.out.get 3 rfl) rfl (he_len x.h) (he_one x.h) (HM.out.get 6 rfl) Hl1.out ?_; intro v7 w7 h7 k7 g7; have HM : Hid _ := HM.out.appR 3 rfl h7 k7 g7; clear h7 k7 g7; simp only [Act.put, List.setIfInBounds_toArray, List.set_cons_zero, List.set_cons_succ]) | (refine St.wp_app1 slHe (by decide) rfl rfl (HM.out.get 3 rfl) rfl (he_len x.h) (he_one x.h) (HM.out.get 7 rfl) Hl1.out ?_; intro v7 w7 h7 k7 g7; have HM : Hid _ := HM.out.appR 3 rfl h7 k7 g7; clear h7 k7 g7; simp only [Act.put, List.setIfInBounds_toArray, List.set_cons_zero, List.set_cons_succ])
              refine Txt.any1 9 (by decide) (by kernel_rfl) (by kernel_rfl) ?_
              simp only [List.getElem_toArray, List.getElem_cons_succ, List.getElem_cons_zero]
              first | (refine Ids.wp_app1 rfl rfl (HM.out.get 4 rfl) rfl x.hid (HM.out.get 6 rfl) Hl2.out ?_; intro v8 w8 h8 k8 g8; have HM : Hid _ := HM.out.appI 4 rfl h8 k8 g8; clear h8 k8 g8; simp only [Act.put, List.setIfInBounds_toArray, List.set_cons_zero, List.set_cons_succ]) | (refine Ids.wp_app1 rfl rfl (HM.out.get 4 rfl) rfl x.hid (HM.out.get 7 rfl) Hl2.out ?_; intro v8 w8 h8 k8 g8; have HM : Hid _ := HM.out.appI 4 rfl h8 k8 g8; clear h8 k8 g8; simp only [Act.put, List.setIfInBounds_toArray, List.set_cons_zero, List.set_cons_succ])
              refine wpAny_take (i := 10) (v := ?_) rfl (by kernel_rfl) (by kernel_rfl) (by kernel_rfl) (fun _ _ _ h => by cases h.1) (Or.inl ⟨by rfl, ?_⟩) ?_; rotate_left; (focus (intro w; go_simp; try with_reducible rfl)); simp only [Act.put, List.setIfInBounds_toArray, List.set_cons_zero, List.set_cons_succ]
              refine wpAny_take (i := 11) (v := ?_) rfl (by kernel_rfl) (by kernel_rfl) (by kernel_rfl) (fun _ _ _ h => by cases h.1) (Or.inl ⟨by rfl, ?_⟩) ?_; rotate_left; (focus (intro w; go_simp; try with_reducible rfl)); simp only [Act.put, List.setIfInBounds_toArray, List.set_cons_zero, List.set_cons_succ]
              refine wpAny_done (by kernel_rfl) ?_ _
              refine ⟨rfl, ?_⟩
              exact ⟨_, _, _, _, rfl, HM.out.sub _ [0, 1, 2, 3, 4] (by decide) rfl⟩
          · simp only [List.getElem_toArray, List.getElem_cons_succ, List.getElem_cons_zero]
            refine Ids.wp_build rfl x.hid rfl ?_; have HM : Hid _ := HM.out.alloc (.cells (x.id.map bv).toArray 24) rfl; simp only [Act.put, List.setIfInBounds_toArray, List.set_cons_zero, List.set_cons_succ]
            refine Txt.any1 2 (by decide) (by kernel_rfl) (by kernel_rfl) ?_
            simp only [List.getElem_toArray, List.getElem_cons_succ, List.getElem_cons_zero]
            refine Txt.wp_ldN (n := 38) (ty := 28) rfl rfl (nm_hd (HM.out.get 5 rfl)) (by kernel_rfl) (he_len x.h) ?_; simp only [Act.put, List.setIfInBounds_toArray, List.set_cons_zero, List.set_cons_succ]
            refine Txt.any1 3 (by decide) (by kernel_rfl) (by kernel_rfl) ?_
            simp only [List.getElem_toArray, List.getElem_cons_succ, List.getElem_cons_zero]
            refine St.wp_build slHe (by decide) rfl (he_len x.h) rfl ?_; have HM : Hid _ := HM.out.alloc (.cells (he x.h).toArray 28) rfl; simp only [Act.put, List.setIfInBounds_toArray, List.set_cons_zero, List.set_cons_succ]
            refine Txt.any1 4 (by decide) (by kernel_rfl) (by kernel_rfl) ?_
            simp only [List.getElem_toArray, List.getElem_cons_succ, List.getElem_cons_zero]
            first | (refine St.wp_app1 slHe (by decide) rfl rfl (HM.out.get 3 rfl) rfl (he_len x.h) (he_one x.h) (HM.out.get 6 rfl) Hl1.out ?_; intro v7 w7 h7 k7 g7; have HM : Hid _ := HM.out.appR 3 rfl h7 k7 g7; clear h7 k7 g7; simp only [Act.put, List.setIfInBounds_toArray, List.set_cons_zero, List.set_cons_succ]) | (refine St.wp_app1 slHe (by decide) rfl rfl (HM.out.get 3 rfl) rfl (he_len x.h) (he_one x.h) (HM.out.get 7 rfl) Hl1.out ?_; intro v7 w7 h7 k7 g7; have HM : Hid _ := HM.out.appR 3 rfl h7 k7 g7; clear h7 k7 g7; simp only [Act.put, List.setIfInBounds_toArray, List.set_cons_zero, List.set_cons_succ])
            refine Txt.any1 9 (by decide) (by kernel_rfl) (by kernel_rfl) ?_
            simp only [List.getElem_toArray, List.getElem_cons_succ, List.getElem_cons_zero]
            first | (refine Ids.wp_app1 rfl rfl (HM.out.get 4 rfl) rfl x.hid (HM.out.get 6 rfl) Hl2.out ?_; intro v8 w8 h8 k8 g8; have HM : Hid _ := HM.out.appI 4 rfl h8 k8 g8; clear h8 k8 g8; simp only [Act.put, List.setIfInBounds_toArray, List.set_cons_zero, List.set_cons_succ]) | (refine Ids.wp_app1 rfl rfl (HM.out.get 4 rfl) rfl x.hid (HM.out.get 7 rfl) Hl2.out ?_; intro v8 w8 h8 k8 g8; have HM : Hid _ := HM.out.appI 4 rfl h8 k8 g8; clear h8 k8 g8; simp only [Act.put, List.setIfInBounds_toArray, List.set_cons_zero, List.set_cons_succ])
            refine wpAny_take (i := 10) (v := ?_) rfl (by kernel_rfl) (by kernel_rfl) (by kernel_rfl) (fun _ _ _ h => by cases h.1) (Or.inl ⟨by rfl, ?_⟩) ?_; rotate_left; (focus (intro w; go_simp; try with_reducible rfl)); simp only [Act.put, List.setIfInBounds_toArray, List.set_cons_zero, List.set_cons_succ]
            refine wpAny_take (i := 11) (v := ?_) rfl (by kernel_rfl) (by kernel_rfl) (by kernel_rfl) (fun _ _ _ h => by cases h.1) (Or.inl ⟨by rfl, ?_⟩) ?_; rotate_left; (focus (intro w; go_simp; try with_reducible rfl)); simp only [Act.put, List.setIfInBounds_toArray, List.set_cons_zero, List.set_cons_succ]
            refine wpAny_done (by kernel_rfl) ?_ _
            refine ⟨rfl, ?_⟩
            exact ⟨_, _, _, _, rfl, HM.out.sub _ [0, 1, 2, 3, 4] (by decide) rfl⟩
      rintro a' w' ⟨u44, u49, v1', v2', rfl, hM⟩
      have HM : Hid _ := hM.out
      clear hM
      simp only [Act.put, List.setIfInBounds_toArray, List.set_cons_zero, List.set_cons_succ]
      go_wp2
      go_roundw
      case rel => exact ⟨k + 1, _, _, by omega, rfl, rfl, rfl, by rw [E1.out, E2.out]; exact HM.out⟩
      case measure => simp [intOf]; omega
    · obtain rfl : k = q := by omega
      obtain ⟨a6, c6, e6, _⟩ := (show St.Own 28 38 he wr v1 ((N.take k).map (·.h)) from HM.out.get 3 rfl).any
      obtain ⟨a7, c7, e7, _⟩ := (show Own wr v2 ((N.take k).map (·.id)) from HM.out.get 4 rfl).at
      have hlen : (N.take k).length = k := by rw [List.length_take, HNl.out]; omega
      rw [List.length_map, hlen] at e6 e7
      subst e6 e7
      clear hlen
      obtain ⟨q, rfl⟩ : ∃ q, q = k := ⟨_, rfl⟩
      go_wp2
      refine Txt.region_to (fun a a' w' => ∃ (a8 : Option Addr) (c8 b20 : Nat), a' = (((((((((((a.put (some 52) (.slice a7 q c7)).put (some 53) (.slice a8 sl.length c8)).put (some 54) (.slice a6 q c6)).put (some 55) (.int .i64 sg)).put (some 56) (.string T)).put (some 57) (.int .i64 A)).put (some 58) (.int .i64 Q)).put (some 59) (.int .i64 Z)).put (some 60) (idv m)).put (some 61) (.agg (hd (.slice a8 sl.length c8) sg T A Q Z m).toArray)).put (some 20) (.pointer (some ⟨b20, 0, none⟩))) ∧ Hid (M (fun _ => False) w w' [blk w.heap.size (.cells (m.map bv).toArray 24), blk (w.heap.size + 1) (.cells hz0 28), ids (.slice a8 sl.length c8) sl, blk b20 (.cells (hd (.slice a8 sl.length c8) sg T A Q Z m).toArray 28)])) ?_ ?_
      · refine wp_region_any (by kernel_rfl) ?_
        change wpAny _ _ _ _ _ _ _ (World.drew _)
        have HM : Hid _ := HM.out.drew
        refine wpAny_take (i := 0) (v := ?_) rfl (by kernel_rfl) (by kernel_rfl) (by kernel_rfl) (fun _ _ _ h => by cases h.1) (Or.inl ⟨by rfl, ?_⟩) ?_; rotate_left; (focus (intro w; go_simp; try with_reducible rfl)); simp only [Act.put, List.setIfInBounds_toArray, List.set_cons_zero, List.set_cons_succ]
        refine wpAny_take (i := 2) (v := ?_) rfl (by kernel_rfl) (by kernel_rfl) (by kernel_rfl) (fun _ _ _ h => by cases h.1) (Or.inl ⟨by rfl, ?_⟩) ?_; rotate_left; (focus (intro w; go_simp; try with_reducible rfl)); simp only [Act.put, List.setIfInBounds_toArray, List.set_cons_zero, List.set_cons_succ]
        refine wpAny_take (i := 4) (v := ?_) rfl (by kernel_rfl) (by kernel_rfl) (by kernel_rfl) (fun _ _ _ h => by cases h.1) (Or.inl ⟨by rfl, ?_⟩) ?_; rotate_left; (focus (intro w; go_simp; try with_reducible rfl)); simp only [Act.put, List.setIfInBounds_toArray, List.set_cons_zero, List.set_cons_succ]
        refine wpAny_take (i := 5) (v := ?_) rfl (by kernel_rfl) (by kernel_rfl) (by kernel_rfl) (fun _ _ _ h => by cases h.1) (Or.inl ⟨by rfl, ?_⟩) ?_; rotate_left; (focus (intro w; go_simp; try with_reducible rfl)); simp only [Act.put, List.setIfInBounds_toArray, List.set_cons_zero, List.set_cons_succ]
        refine wpAny_take (i := 6) (v := ?_) rfl (by kernel_rfl) (by kernel_rfl) (by kernel_rfl) (fun _ _ _ h => by cases h.1) (Or.inl ⟨by rfl, ?_⟩) ?_; rotate_left; (focus (intro w; go_simp; try with_reducible rfl)); simp only [Act.put, List.setIfInBounds_toArray, List.set_cons_zero, List.set_cons_succ]
        refine wpAny_take (i := 7) (v := ?_) rfl (by kernel_rfl) (by kernel_rfl) (by kernel_rfl) (fun _ _ _ h => by cases h.1) (Or.inl ⟨by rfl, ?_⟩) ?_; rotate_left; (focus (intro w; go_simp; try with_reducible rfl)); simp only [Act.put, List.setIfInBounds_toArray, List.set_cons_zero, List.set_cons_succ]
        refine Txt.any3 1 8 10 (by decide) (by decide) (by decide) (by kernel_rfl) (by kernel_rfl) ?_ ?_ ?_
        · simp only [List.getElem_toArray, List.getElem_cons_succ, List.getElem_cons_zero]
          refine Txt.wp_call Tryz.func28 (by kernel_rfl) (by kernel_rfl) rfl (vs := #[.slice a7 q c7]) rfl (set_any _ a7 q c7 _ (iat (HM.out.get 4 rfl)) (by omega)) ?_; rw [HSL.out]; rintro e w7 ⟨v7, rfl, n7⟩; obtain ⟨a8, c8, e8, _⟩ := n7.1.at; have HM : Hid _ := HM.out.add (x := ids v7 sl) n7.2.1 n7.1 (fun k hk => ⟨n7.2.2 k hk, n7.1.lt hk⟩); subst e8; clear n7; refine ⟨_, rfl, ?_⟩; simp only [Act.put, List.setIfInBounds_toArray, List.set_cons_zero, List.set_cons_succ]
          refine Txt.any3 3 8 10 (by decide) (by decide) (by decide) (by kernel_rfl) (by kernel_rfl) ?_ ?_ ?_
          · simp only [List.getElem_toArray, List.getElem_cons_succ, List.getElem_cons_zero]
            refine Txt.wp_call Tryz.func29 (by kernel_rfl) (by kernel_rfl) rfl (vs := #[.slice a6 q c6]) rfl (height_any _ a6 q c6 _ (hat (HM.out.get 3 rfl)) (by omega)) ?_; rw [HSG.out]; rintro e w8 ⟨rfl, k8⟩; have HM : Hid _ := HM.out.calm k8; clear k8; refine ⟨_, rfl, ?_⟩; simp only [Act.put, List.setIfInBounds_toArray, List.set_cons_zero, List.set_cons_succ]
            refine Txt.any2 8 10 (by decide) (by decide) (by kernel_rfl) (by kernel_rfl) ?_ ?_
            · simp only [List.getElem_toArray, List.getElem_cons_succ, List.getElem_cons_zero]
              refine Txt.wp_ldN (n := 32) (ty := 24) rfl rfl (HM.out.range 0 rfl) (by kernel_rfl) (by rw [List.length_map]; exact Hm.out) ?_; simp only [Act.put, List.setIfInBounds_toArray, List.set_cons_zero, List.set_cons_succ]
              refine wpAny_take (i := 9) (v := .agg (hd (.slice a8 sl.length c8) sg T A Q Z m).toArray) rfl (by kernel_rfl) (by decide +kernel) (by decide +kernel) (fun _ _ _ h => by cases h.1) (Or.inl ⟨by rfl, Txt.ex_build rfl [(0, .slice a8 sl.length c8), (1, .int .i64 sg), (2, .string T), (3, .int .i64 A), (4, .int .i64 Q), (5, .int .i64 Z), (6, idv m)] rfl (fun w => run_bld w _ _ (built_hd a8 sl.length c8 sg T A Q Z m Hm.out))⟩) ?_; simp only [Act.put, List.setIfInBounds_toArray, List.set_cons_zero, List.set_cons_succ]
              refine Txt.any1 10 (by decide) (by kernel_rfl) (by kernel_rfl) ?_
              simp only [List.getElem_toArray, List.getElem_cons_succ, List.getElem_cons_zero]
              refine St.wp_alloc tyH rfl ?_; have HM : Hid _ := HM.out.alloc (.cells hz0 28) rfl; simp only [Act.put, List.setIfInBounds_toArray, List.set_cons_zero, List.set_cons_succ]
              refine Txt.any1 11 (by decide) (by kernel_rfl) (by kernel_rfl) ?_
              simp only [List.getElem_toArray, List.getElem_cons_succ, List.getElem_cons_zero]
              first | (refine St.wp_store tyH rfl rfl rfl rfl (cs := (hd (.slice a8 sl.length c8) sg T A Q Z m).toArray) (hd_sz' Hm.out) (hd_one _ _ _ _ _ _ _ _ _) (HM.out.get 6 rfl) rfl ?_; have HM : Hid _ := HM.out.setr 6 rfl (hd (.slice a8 sl.length c8) sg T A Q Z m).toArray) | (refine St.wp_store tyH rfl rfl rfl rfl (cs := (hd (.slice a8 sl.length c8) sg T A Q Z m).toArray) (hd_sz' Hm.out) (hd_one _ _ _ _ _ _ _ _ _) (HM.out.get 5 rfl) rfl ?_; have HM : Hid _ := HM.out.setr 5 rfl (hd (.slice a8 sl.length c8) sg T A Q Z m).toArray)
              refine wpAny_done (by kernel_rfl) ?_ _
              refine ⟨rfl, ?_⟩
              first | exact ⟨_, _, _, rfl, HM.out.sub _ [0, 1, 5, 6] (by decide) rfl⟩ | exact ⟨_, _, _, rfl, HM.out.sub _ [0, 1, 6, 5] (by decide) rfl⟩
            · simp only [List.getElem_toArray, List.getElem_cons_succ, List.getElem_cons_zero]
              refine St.wp_alloc tyH rfl ?_; have HM : Hid _ := HM.out.alloc (.cells hz0 28) rfl; simp only [Act.put, List.setIfInBounds_toArray, List.set_cons_zero, List.set_cons_succ]
              refine Txt.any1 8 (by decide) (by kernel_rfl) (by kernel_rfl) ?_
              simp only [List.getElem_toArray, List.getElem_cons_succ, List.getElem_cons_zero]
              refine Txt.wp_ldN (n := 32) (ty := 24) rfl rfl (HM.out.range 0 rfl) (by kernel_rfl) (by rw [List.length_map]; exact Hm.out) ?_; simp only [Act.put, List.setIfInBounds_toArray, List.set_cons_zero, List.set_cons_succ]
              refine wpAny_take (i := 9) (v := .agg (hd (.slice a8 sl.length c8) sg T A Q Z m).toArray) rfl (by kernel_rfl) (by decide +kernel) (by decide +kernel) (fun _ _ _ h => by cases h.1) (Or.inl ⟨by rfl, Txt.ex_build rfl [(0, .slice a8 sl.length c8), (1, .int .i64 sg), (2, .string T), (3, .int .i64 A), (4, .int .i64 Q), (5, .int .i64 Z), (6, idv m)] rfl (fun w => run_bld w _ _ (built_hd a8 sl.length c8 sg T A Q Z m Hm.out))⟩) ?_; simp only [Act.put, List.setIfInBounds_toArray, List.set_cons_zero, List.set_cons_succ]
              refine Txt.any1 11 (by decide) (by kernel_rfl) (by kernel_rfl) ?_
              simp only [List.getElem_toArray, List.getElem_cons_succ, List.getElem_cons_zero]
              first | (refine St.wp_store tyH rfl rfl rfl rfl (cs := (hd (.slice a8 sl.length c8) sg T A Q Z m).toArray) (hd_sz' Hm.out) (hd_one _ _ _ _ _ _ _ _ _) (HM.out.get 6 rfl) rfl ?_; have HM : Hid _ := HM.out.setr 6 rfl (hd (.slice a8 sl.length c8) sg T A Q Z m).toArray) | (refine St.wp_store tyH rfl rfl rfl rfl (cs := (hd (.slice a8 sl.length c8) sg T A Q Z m).toArray) (hd_sz' Hm.out) (hd_one _ _ _ _ _ _ _ _ _) (HM.out.get 5 rfl) rfl ?_; have HM : Hid _ := HM.out.setr 5 rfl (hd (.slice a8 sl.length c8) sg T A Q Z m).toArray)
              refine wpAny_done (by kernel_rfl) ?_ _
              refine ⟨rfl, ?_⟩
              first | exact ⟨_, _, _, rfl, HM.out.sub _ [0, 1, 5, 6] (by decide) rfl⟩ | exact ⟨_, _, _, rfl, HM.out.sub _ [0, 1, 6, 5] (by decide) rfl⟩
          · simp only [List.getElem_toArray, List.getElem_cons_succ, List.getElem_cons_zero]
            refine Txt.wp_ldN (n := 32) (ty := 24) rfl rfl (HM.out.range 0 rfl) (by kernel_rfl) (by rw [List.length_map]; exact Hm.out) ?_; simp only [Act.put, List.setIfInBounds_toArray, List.set_cons_zero, List.set_cons_succ]
            refine Txt.any2 3 10 (by decide) (by decide) (by kernel_rfl) (by kernel_rfl) ?_ ?_
            · simp only [List.getElem_toArray, List.getElem_cons_succ, List.getElem_cons_zero]
              refine Txt.wp_call Tryz.func29 (by kernel_rfl) (by kernel_rfl) rfl (vs := #[.slice a6 q c6]) rfl (height_any _ a6 q c6 _ (hat (HM.out.get 3 rfl)) (by omega)) ?_; rw [HSG.out]; rintro e w8 ⟨rfl, k8⟩; have HM : Hid _ := HM.out.calm k8; clear k8; refine ⟨_, rfl, ?_⟩; simp only [Act.put, List.setIfInBounds_toArray, List.set_cons_zero, List.set_cons_succ]
              refine wpAny_take (i := 9) (v := .agg (hd (.slice a8 sl.length c8) sg T A Q Z m).toArray) rfl (by kernel_rfl) (by decide +kernel) (by decide +kernel) (fun _ _ _ h => by cases h.1) (Or.inl ⟨by rfl, Txt.ex_build rfl [(0, .slice a8 sl.length c8), (1, .int .i64 sg), (2, .string T), (3, .int .i64 A), (4, .int .i64 Q), (5, .int .i64 Z), (6, idv m)] rfl (fun w => run_bld w _ _ (built_hd a8 sl.length c8 sg T A Q Z m Hm.out))⟩) ?_; simp only [Act.put, List.setIfInBounds_toArray, List.set_cons_zero, List.set_cons_succ]
              refine Txt.any1 10 (by decide) (by kernel_rfl) (by kernel_rfl) ?_
              simp only [List.getElem_toArray, List.getElem_cons_succ, List.getElem_cons_zero]
              refine St.wp_alloc tyH rfl ?_; have HM : Hid _ := HM.out.alloc (.cells hz0 28) rfl; simp only [Act.put, List.setIfInBounds_toArray, List.set_cons_zero, List.set_cons_succ]
              refine Txt.any1 11 (by decide) (by kernel_rfl) (by kernel_rfl) ?_
              simp only [List.getElem_toArray, List.getElem_cons_succ, List.getElem_cons_zero]
              first | (refine St.wp_store tyH rfl rfl rfl rfl (cs := (hd (.slice a8 sl.length c8) sg T A Q Z m).toArray) (hd_sz' Hm.out) (hd_one _ _ _ _ _ _ _ _ _) (HM.out.get 6 rfl) rfl ?_; have HM : Hid _ := HM.out.setr 6 rfl (hd (.slice a8 sl.length c8) sg T A Q Z m).toArray) | (refine St.wp_store tyH rfl rfl rfl rfl (cs := (hd (.slice a8 sl.length c8) sg T A Q Z m).toArray) (hd_sz' Hm.out) (hd_one _ _ _ _ _ _ _ _ _) (HM.out.get 5 rfl) rfl ?_; have HM : Hid _ := HM.out.setr 5 rfl (hd (.slice a8 sl.length c8) sg T A Q Z m).toArray)
              refine wpAny_done (by kernel_rfl) ?_ _
              refine ⟨rfl, ?_⟩
              first | exact ⟨_, _, _, rfl, HM.out.sub _ [0, 1, 5, 6] (by decide) rfl⟩ | exact ⟨_, _, _, rfl, HM.out.sub _ [0, 1, 6, 5] (by decide) rfl⟩
            · simp only [List.getElem_toArray, List.getElem_cons_succ, List.getElem_cons_zero]
              refine St.wp_alloc tyH rfl ?_; have HM : Hid _ := HM.out.alloc (.cells hz0 28) rfl; simp only [Act.put, List.setIfInBounds_toArray, List.set_cons_zero, List.set_cons_succ]
              refine Txt.any1 3 (by decide) (by kernel_rfl) (by kernel_rfl) ?_
              simp only [List.getElem_toArray, List.getElem_cons_succ, List.getElem_cons_zero]
              refine Txt.wp_call Tryz.func29 (by kernel_rfl) (by kernel_rfl) rfl (vs := #[.slice a6 q c6]) rfl (height_any _ a6 q c6 _ (hat (HM.out.get 3 rfl)) (by omega)) ?_; rw [HSG.out]; rintro e w8 ⟨rfl, k8⟩; have HM : Hid _ := HM.out.calm k8; clear k8; refine ⟨_, rfl, ?_⟩; simp only [Act.put, List.setIfInBounds_toArray, List.set_cons_zero, List.set_cons_succ]
              refine wpAny_take (i := 9) (v := .agg (hd (.slice a8 sl.length c8) sg T A Q Z m).toArray) rfl (by kernel_rfl) (by decide +kernel) (by decide +kernel) (fun _ _ _ h => by cases h.1) (Or.inl ⟨by rfl, Txt.ex_build rfl [(0, .slice a8 sl.length c8), (1, .int .i64 sg), (2, .string T), (3, .int .i64 A), (4, .int .i64 Q), (5, .int .i64 Z), (6, idv m)] rfl (fun w => run_bld w _ _ (built_hd a8 sl.length c8 sg T A Q Z m Hm.out))⟩) ?_; simp only [Act.put, List.setIfInBounds_toArray, List.set_cons_zero, List.set_cons_succ]
              refine Txt.any1 11 (by decide) (by kernel_rfl) (by kernel_rfl) ?_
              simp only [List.getElem_toArray, List.getElem_cons_succ, List.getElem_cons_zero]
              first | (refine St.wp_store tyH rfl rfl rfl rfl (cs := (hd (.slice a8 sl.length c8) sg T A Q Z m).toArray) (hd_sz' Hm.out) (hd_one _ _ _ _ _ _ _ _ _) (HM.out.get 6 rfl) rfl ?_; have HM : Hid _ := HM.out.setr 6 rfl (hd (.slice a8 sl.length c8) sg T A Q Z m).toArray) | (refine St.wp_store tyH rfl rfl rfl rfl (cs := (hd (.slice a8 sl.length c8) sg T A Q Z m).toArray) (hd_sz' Hm.out) (hd_one _ _ _ _ _ _ _ _ _) (HM.out.get 5 rfl) rfl ?_; have HM : Hid _ := HM.out.setr 5 rfl (hd (.slice a8 sl.length c8) sg T A Q Z m).toArray)
              refine wpAny_done (by kernel_rfl) ?_ _
              refine ⟨rfl, ?_⟩
              first | exact ⟨_, _, _, rfl, HM.out.sub _ [0, 1, 5, 6] (by decide) rfl⟩ | exact ⟨_, _, _, rfl, HM.out.sub _ [0, 1, 6, 5] (by decide) rfl⟩
          · simp only [List.getElem_toArray, List.getElem_cons_succ, List.getElem_cons_zero]
            refine St.wp_alloc tyH rfl ?_; have HM : Hid _ := HM.out.alloc (.cells hz0 28) rfl; simp only [Act.put, List.setIfInBounds_toArray, List.set_cons_zero, List.set_cons_succ]
            refine Txt.any2 3 8 (by decide) (by decide) (by kernel_rfl) (by kernel_rfl) ?_ ?_
            · simp only [List.getElem_toArray, List.getElem_cons_succ, List.getElem_cons_zero]
              refine Txt.wp_call Tryz.func29 (by kernel_rfl) (by kernel_rfl) rfl (vs := #[.slice a6 q c6]) rfl (height_any _ a6 q c6 _ (hat (HM.out.get 3 rfl)) (by omega)) ?_; rw [HSG.out]; rintro e w8 ⟨rfl, k8⟩; have HM : Hid _ := HM.out.calm k8; clear k8; refine ⟨_, rfl, ?_⟩; simp only [Act.put, List.setIfInBounds_toArray, List.set_cons_zero, List.set_cons_succ]
              refine Txt.any1 8 (by decide) (by kernel_rfl) (by kernel_rfl) ?_
              simp only [List.getElem_toArray, List.getElem_cons_succ, List.getElem_cons_zero]
              refine Txt.wp_ldN (n := 32) (ty := 24) rfl rfl (HM.out.range 0 rfl) (by kernel_rfl) (by rw [List.length_map]; exact Hm.out) ?_; simp only [Act.put, List.setIfInBounds_toArray, List.set_cons_zero, List.set_cons_succ]
              refine wpAny_take (i := 9) (v := .agg (hd (.slice a8 sl.length c8) sg T A Q Z m).toArray) rfl (by kernel_rfl) (by decide +kernel) (by decide +kernel) (fun _ _ _ h => by cases h.1) (Or.inl ⟨by rfl, Txt.ex_build rfl [(0, .slice a8 sl.length c8), (1, .int .i64 sg), (2, .string T), (3, .int .i64 A), (4, .int .i64 Q), (5, .int .i64 Z), (6, idv m)] rfl (fun w => run_bld w _ _ (built_hd a8 sl.length c8 sg T A Q Z m Hm.out))⟩) ?_; simp only [Act.put, List.setIfInBounds_toArray, List.set_cons_zero, List.set_cons_succ]
              refine Txt.any1 11 (by decide) (by kernel_rfl) (by kernel_rfl) ?_
              simp only [List.getElem_toArray, List.getElem_cons_succ, List.getElem_cons_zero]
              first | (refine St.wp_store tyH rfl rfl rfl rfl (cs := (hd (.slice a8 sl.length c8) sg T A Q Z m).toArray) (hd_sz' Hm.out) (hd_one _ _ _ _ _ _ _ _ _) (HM.out.get 6 rfl) rfl ?_; have HM : Hid _ := HM.out.setr 6 rfl (hd (.slice a8 sl.length c8) sg T A Q Z m).toArray) | (refine St.wp_store tyH rfl rfl rfl rfl (cs := (hd (.slice a8 sl.length c8) sg T A Q Z m).toArray) (hd_sz' Hm.out) (hd_one _ _ _ _ _ _ _ _ _) (HM.out.get 5 rfl) rfl ?_; have HM : Hid _ := HM.out.setr 5 rfl (hd (.slice a8 sl.length c8) sg T A Q Z m).toArray)
              refine wpAny_done (by kernel_rfl) ?_ _
              refine ⟨rfl, ?_⟩
              first | exact ⟨_, _, _, rfl, HM.out.sub _ [0, 1, 5, 6] (by decide) rfl⟩ | exact ⟨_, _, _, rfl, HM.out.sub _ [0, 1, 6, 5] (by decide) rfl⟩
            · simp only [List.getElem_toArray, List.getElem_cons_succ, List.getElem_cons_zero]
              refine Txt.wp_ldN (n := 32) (ty := 24) rfl rfl (HM.out.range 0 rfl) (by kernel_rfl) (by rw [List.length_map]; exact Hm.out) ?_; simp only [Act.put, List.setIfInBounds_toArray, List.set_cons_zero, List.set_cons_succ]
              refine Txt.any1 3 (by decide) (by kernel_rfl) (by kernel_rfl) ?_
              simp only [List.getElem_toArray, List.getElem_cons_succ, List.getElem_cons_zero]
              refine Txt.wp_call Tryz.func29 (by kernel_rfl) (by kernel_rfl) rfl (vs := #[.slice a6 q c6]) rfl (height_any _ a6 q c6 _ (hat (HM.out.get 3 rfl)) (by omega)) ?_; rw [HSG.out]; rintro e w8 ⟨rfl, k8⟩; have HM : Hid _ := HM.out.calm k8; clear k8; refine ⟨_, rfl, ?_⟩; simp only [Act.put, List.setIfInBounds_toArray, List.set_cons_zero, List.set_cons_succ]
              refine wpAny_take (i := 9) (v := .agg (hd (.slice a8 sl.length c8) sg T A Q Z m).toArray) rfl (by kernel_rfl) (by decide +kernel) (by decide +kernel) (fun _ _ _ h => by cases h.1) (Or.inl ⟨by rfl, Txt.ex_build rfl [(0, .slice a8 sl.length c8), (1, .int .i64 sg), (2, .string T), (3, .int .i64 A), (4, .int .i64 Q), (5, .int .i64 Z), (6, idv m)] rfl (fun w => run_bld w _ _ (built_hd a8 sl.length c8 sg T A Q Z m Hm.out))⟩) ?_; simp only [Act.put, List.setIfInBounds_toArray, List.set_cons_zero, List.set_cons_succ]
              refine Txt.any1 11 (by decide) (by kernel_rfl) (by kernel_rfl) ?_
              simp only [List.getElem_toArray, List.getElem_cons_succ, List.getElem_cons_zero]
              first | (refine St.wp_store tyH rfl rfl rfl rfl (cs := (hd (.slice a8 sl.length c8) sg T A Q Z m).toArray) (hd_sz' Hm.out) (hd_one _ _ _ _ _ _ _ _ _) (HM.out.get 6 rfl) rfl ?_; have HM : Hid _ := HM.out.setr 6 rfl (hd (.slice a8 sl.length c8) sg T A Q Z m).toArray) | (refine St.wp_store tyH rfl rfl rfl rfl (cs := (hd (.slice a8 sl.length c8) sg T A Q Z m).toArray) (hd_sz' Hm.out) (hd_one _ _ _ _ _ _ _ _ _) (HM.out.get 5 rfl) rfl ?_; have HM : Hid _ := HM.out.setr 5 rfl (hd (.slice a8 sl.length c8) sg T A Q Z m).toArray)
              refine wpAny_done (by kernel_rfl) ?_ _
              refine ⟨rfl, ?_⟩
              first | exact ⟨_, _, _, rfl, HM.out.sub _ [0, 1, 5, 6] (by decide) rfl⟩ | exact ⟨_, _, _, rfl, HM.out.sub _ [0, 1, 6, 5] (by decide) rfl⟩
        · simp only [List.getElem_toArray, List.getElem_cons_succ, List.getElem_cons_zero]
          refine Txt.wp_ldN (n := 32) (ty := 24) rfl rfl (HM.out.range 0 rfl) (by kernel_rfl) (by rw [List.length_map]; exact Hm.out) ?_; simp only [Act.put, List.setIfInBounds_toArray, List.set_cons_zero, List.set_cons_succ]
          refine Txt.any2 1 10 (by decide) (by decide) (by kernel_rfl) (by kernel_rfl) ?_ ?_
          · simp only [List.getElem_toArray, List.getElem_cons_succ, List.getElem_cons_zero]
            refine Txt.wp_call Tryz.func28 (by kernel_rfl) (by kernel_rfl) rfl (vs := #[.slice a7 q c7]) rfl (set_any _ a7 q c7 _ (iat (HM.out.get 4 rfl)) (by omega)) ?_; rw [HSL.out]; rintro e w7 ⟨v7, rfl, n7⟩; obtain ⟨a8, c8, e8, _⟩ := n7.1.at; have HM : Hid _ := HM.out.add (x := ids v7 sl) n7.2.1 n7.1 (fun k hk => ⟨n7.2.2 k hk, n7.1.lt hk⟩); subst e8; clear n7; refine ⟨_, rfl, ?_⟩; simp only [Act.put, List.setIfInBounds_toArray, List.set_cons_zero, List.set_cons_succ]
            refine Txt.any2 3 10 (by decide) (by decide) (by kernel_rfl) (by kernel_rfl) ?_ ?_
            · simp only [List.getElem_toArray, List.getElem_cons_succ, List.getElem_cons_zero]
              refine Txt.wp_call Tryz.func29 (by kernel_rfl) (by kernel_rfl) rfl (vs := #[.slice a6 q c6]) rfl (height_any _ a6 q c6 _ (hat (HM.out.get 3 rfl)) (by omega)) ?_; rw [HSG.out]; rintro e w8 ⟨rfl, k8⟩; have HM : Hid _ := HM.out.calm k8; clear k8; refine ⟨_, rfl, ?_⟩; simp only [Act.put, List.setIfInBounds_toArray, List.set_cons_zero, List.set_cons_succ]
              refine wpAny_take (i := 9) (v := .agg (hd (.slice a8 sl.length c8) sg T A Q Z m).toArray) rfl (by kernel_rfl) (by decide +kernel) (by decide +kernel) (fun _ _ _ h => by cases h.1) (Or.inl ⟨by rfl, Txt.ex_build rfl [(0, .slice a8 sl.length c8), (1, .int .i64 sg), (2, .string T), (3, .int .i64 A), (4, .int .i64 Q), (5, .int .i64 Z), (6, idv m)] rfl (fun w => run_bld w _ _ (built_hd a8 sl.length c8 sg T A Q Z m Hm.out))⟩) ?_; simp only [Act.put, List.setIfInBounds_toArray, List.set_cons_zero, List.set_cons_succ]
              refine Txt.any1 10 (by decide) (by kernel_rfl) (by kernel_rfl) ?_
              simp only [List.getElem_toArray, List.getElem_cons_succ, List.getElem_cons_zero]
              refine St.wp_alloc tyH rfl ?_; have HM : Hid _ := HM.out.alloc (.cells hz0 28) rfl; simp only [Act.put, List.setIfInBounds_toArray, List.set_cons_zero, List.set_cons_succ]
              refine Txt.any1 11 (by decide) (by kernel_rfl) (by kernel_rfl) ?_
              simp only [List.getElem_toArray, List.getElem_cons_succ, List.getElem_cons_zero]
              first | (refine St.wp_store tyH rfl rfl rfl rfl (cs := (hd (.slice a8 sl.length c8) sg T A Q Z m).toArray) (hd_sz' Hm.out) (hd_one _ _ _ _ _ _ _ _ _) (HM.out.get 6 rfl) rfl ?_; have HM : Hid _ := HM.out.setr 6 rfl (hd (.slice a8 sl.length c8) sg T A Q Z m).toArray) | (refine St.wp_store tyH rfl rfl rfl rfl (cs := (hd (.slice a8 sl.length c8) sg T A Q Z m).toArray) (hd_sz' Hm.out) (hd_one _ _ _ _ _ _ _ _ _) (HM.out.get 5 rfl) rfl ?_; have HM : Hid _ := HM.out.setr 5 rfl (hd (.slice a8 sl.length c8) sg T A Q Z m).toArray)
              refine wpAny_done (by kernel_rfl) ?_ _
              refine ⟨rfl, ?_⟩
              first | exact ⟨_, _, _, rfl, HM.out.sub _ [0, 1, 5, 6] (by decide) rfl⟩ | exact ⟨_, _, _, rfl, HM.out.sub _ [0, 1, 6, 5] (by decide) rfl⟩
            · simp only [List.getElem_toArray, List.getElem_cons_succ, List.getElem_cons_zero]
              refine St.wp_alloc tyH rfl ?_; have HM : Hid _ := HM.out.alloc (.cells hz0 28) rfl; simp only [Act.put, List.setIfInBounds_toArray, List.set_cons_zero, List.set_cons_succ]
              refine Txt.any1 3 (by decide) (by kernel_rfl) (by kernel_rfl) ?_
              simp only [List.getElem_toArray, List.getElem_cons_succ, List.getElem_cons_zero]
              refine Txt.wp_call Tryz.func29 (by kernel_rfl) (by kernel_rfl) rfl (vs := #[.slice a6 q c6]) rfl (height_any _ a6 q c6 _ (hat (HM.out.get 3 rfl)) (by omega)) ?_; rw [HSG.out]; rintro e w8 ⟨rfl, k8⟩; have HM : Hid _ := HM.out.calm k8; clear k8; refine ⟨_, rfl, ?_⟩; simp only [Act.put, List.setIfInBounds_toArray, List.set_cons_zero, List.set_cons_succ]
              refine wpAny_take (i := 9) (v := .agg (hd (.slice a8 sl.length c8) sg T A Q Z m).toArray) rfl (by kernel_rfl) (by decide +kernel) (by decide +kernel) (fun _ _ _ h => by cases h.1) (Or.inl ⟨by rfl, Txt.ex_build rfl [(0, .slice a8 sl.length c8), (1, .int .i64 sg), (2, .string T), (3, .int .i64 A), (4, .int .i64 Q), (5, .int .i64 Z), (6, idv m)] rfl (fun w => run_bld w _ _ (built_hd a8 sl.length c8 sg T A Q Z m Hm.out))⟩) ?_; simp only [Act.put, List.setIfInBounds_toArray, List.set_cons_zero, List.set_cons_succ]
              refine Txt.any1 11 (by decide) (by kernel_rfl) (by kernel_rfl) ?_
              simp only [List.getElem_toArray, List.getElem_cons_succ, List.getElem_cons_zero]
              first | (refine St.wp_store tyH rfl rfl rfl rfl (cs := (hd (.slice a8 sl.length c8) sg T A Q Z m).toArray) (hd_sz' Hm.out) (hd_one _ _ _ _ _ _ _ _ _) (HM.out.get 6 rfl) rfl ?_; have HM : Hid _ := HM.out.setr 6 rfl (hd (.slice a8 sl.length c8) sg T A Q Z m).toArray) | (refine St.wp_store tyH rfl rfl rfl rfl (cs := (hd (.slice a8 sl.length c8) sg T A Q Z m).toArray) (hd_sz' Hm.out) (hd_one _ _ _ _ _ _ _ _ _) (HM.out.get 5 rfl) rfl ?_; have HM : Hid _ := HM.out.setr 5 rfl (hd (.slice a8 sl.length c8) sg T A Q Z m).toArray)
              refine wpAny_done (by kernel_rfl) ?_ _
              refine ⟨rfl, ?_⟩
              first | exact ⟨_, _, _, rfl, HM.out.sub _ [0, 1, 5, 6] (by decide) rfl⟩ | exact ⟨_, _, _, rfl, HM.out.sub _ [0, 1, 6, 5] (by decide) rfl⟩
          · simp only [List.getElem_toArray, List.getElem_cons_succ, List.getElem_cons_zero]
            refine St.wp_alloc tyH rfl ?_; have HM : Hid _ := HM.out.alloc (.cells hz0 28) rfl; simp only [Act.put, List.setIfInBounds_toArray, List.set_cons_zero, List.set_cons_succ]
            refine Txt.any1 1 (by decide) (by kernel_rfl) (by kernel_rfl) ?_
            simp only [List.getElem_toArray, List.getElem_cons_succ, List.getElem_cons_zero]
            refine Txt.wp_call Tryz.func28 (by kernel_rfl) (by kernel_rfl) rfl (vs := #[.slice a7 q c7]) rfl (set_any _ a7 q c7 _ (iat (HM.out.get 4 rfl)) (by omega)) ?_; rw [HSL.out]; rintro e w7 ⟨v7, rfl, n7⟩; obtain ⟨a8, c8, e8, _⟩ := n7.1.at; have HM : Hid _ := HM.out.add (x := ids v7 sl) n7.2.1 n7.1 (fun k hk => ⟨n7.2.2 k hk, n7.1.lt hk⟩); subst e8; clear n7; refine ⟨_, rfl, ?_⟩; simp only [Act.put, List.setIfInBounds_toArray, List.set_cons_zero, List.set_cons_succ]
            refine Txt.any1 3 (by decide) (by kernel_rfl) (by kernel_rfl) ?_
            simp only [List.getElem_toArray, List.getElem_cons_succ, List.getElem_cons_zero]
            refine Txt.wp_call Tryz.func29 (by kernel_rfl) (by kernel_rfl) rfl (vs := #[.slice a6 q c6]) rfl (height_any _ a6 q c6 _ (hat (HM.out.get 3 rfl)) (by omega)) ?_; rw [HSG.out]; rintro e w8 ⟨rfl, k8⟩; have HM : Hid _ := HM.out.calm k8; clear k8; refine ⟨_, rfl, ?_⟩; simp only [Act.put, List.setIfInBounds_toArray, List.set_cons_zero, List.set_cons_succ]
            refine wpAny_take (i := 9) (v := .agg (hd (.slice a8 sl.length c8) sg T A Q Z m).toArray) rfl (by kernel_rfl) (by decide +kernel) (by decide +kernel) (fun _ _ _ h => by cases h.1) (Or.inl ⟨by rfl, Txt.ex_build rfl [(0, .slice a8 sl.length c8), (1, .int .i64 sg), (2, .string T), (3, .int .i64 A), (4, .int .i64 Q), (5, .int .i64 Z), (6, idv m)] rfl (fun w => run_bld w _ _ (built_hd a8 sl.length c8 sg T A Q Z m Hm.out))⟩) ?_; simp only [Act.put, List.setIfInBounds_toArray, List.set_cons_zero, List.set_cons_succ]
            refine Txt.any1 11 (by decide) (by kernel_rfl) (by kernel_rfl) ?_
            simp only [List.getElem_toArray, List.getElem_cons_succ, List.getElem_cons_zero]
            first | (refine St.wp_store tyH rfl rfl rfl rfl (cs := (hd (.slice a8 sl.length c8) sg T A Q Z m).toArray) (hd_sz' Hm.out) (hd_one _ _ _ _ _ _ _ _ _) (HM.out.get 6 rfl) rfl ?_; have HM : Hid _ := HM.out.setr 6 rfl (hd (.slice a8 sl.length c8) sg T A Q Z m).toArray) | (refine St.wp_store tyH rfl rfl rfl rfl (cs := (hd (.slice a8 sl.length c8) sg T A Q Z m).toArray) (hd_sz' Hm.out) (hd_one _ _ _ _ _ _ _ _ _) (HM.out.get 5 rfl) rfl ?_; have HM : Hid _ := HM.out.setr 5 rfl (hd (.slice a8 sl.length c8) sg T A Q Z m).toArray)
            refine wpAny_done (by kernel_rfl) ?_ _
            refine ⟨rfl, ?_⟩
            first | exact ⟨_, _, _, rfl, HM.out.sub _ [0, 1, 5, 6] (by decide) rfl⟩ | exact ⟨_, _, _, rfl, HM.out.sub _ [0, 1, 6, 5] (by decide) rfl⟩
        · simp only [List.getElem_toArray, List.getElem_cons_succ, List.getElem_cons_zero]
          refine St.wp_alloc tyH rfl ?_; have HM : Hid _ := HM.out.alloc (.cells hz0 28) rfl; simp only [Act.put, List.setIfInBounds_toArray, List.set_cons_zero, List.set_cons_succ]
          refine Txt.any2 1 8 (by decide) (by decide) (by kernel_rfl) (by kernel_rfl) ?_ ?_
          · simp only [List.getElem_toArray, List.getElem_cons_succ, List.getElem_cons_zero]
            refine Txt.wp_call Tryz.func28 (by kernel_rfl) (by kernel_rfl) rfl (vs := #[.slice a7 q c7]) rfl (set_any _ a7 q c7 _ (iat (HM.out.get 4 rfl)) (by omega)) ?_; rw [HSL.out]; rintro e w7 ⟨v7, rfl, n7⟩; obtain ⟨a8, c8, e8, _⟩ := n7.1.at; have HM : Hid _ := HM.out.add (x := ids v7 sl) n7.2.1 n7.1 (fun k hk => ⟨n7.2.2 k hk, n7.1.lt hk⟩); subst e8; clear n7; refine ⟨_, rfl, ?_⟩; simp only [Act.put, List.setIfInBounds_toArray, List.set_cons_zero, List.set_cons_succ]
            refine Txt.any2 3 8 (by decide) (by decide) (by kernel_rfl) (by kernel_rfl) ?_ ?_
            · simp only [List.getElem_toArray, List.getElem_cons_succ, List.getElem_cons_zero]
              refine Txt.wp_call Tryz.func29 (by kernel_rfl) (by kernel_rfl) rfl (vs := #[.slice a6 q c6]) rfl (height_any _ a6 q c6 _ (hat (HM.out.get 3 rfl)) (by omega)) ?_; rw [HSG.out]; rintro e w8 ⟨rfl, k8⟩; have HM : Hid _ := HM.out.calm k8; clear k8; refine ⟨_, rfl, ?_⟩; simp only [Act.put, List.setIfInBounds_toArray, List.set_cons_zero, List.set_cons_succ]
              refine Txt.any1 8 (by decide) (by kernel_rfl) (by kernel_rfl) ?_
              simp only [List.getElem_toArray, List.getElem_cons_succ, List.getElem_cons_zero]
              refine Txt.wp_ldN (n := 32) (ty := 24) rfl rfl (HM.out.range 0 rfl) (by kernel_rfl) (by rw [List.length_map]; exact Hm.out) ?_; simp only [Act.put, List.setIfInBounds_toArray, List.set_cons_zero, List.set_cons_succ]
              refine wpAny_take (i := 9) (v := .agg (hd (.slice a8 sl.length c8) sg T A Q Z m).toArray) rfl (by kernel_rfl) (by decide +kernel) (by decide +kernel) (fun _ _ _ h => by cases h.1) (Or.inl ⟨by rfl, Txt.ex_build rfl [(0, .slice a8 sl.length c8), (1, .int .i64 sg), (2, .string T), (3, .int .i64 A), (4, .int .i64 Q), (5, .int .i64 Z), (6, idv m)] rfl (fun w => run_bld w _ _ (built_hd a8 sl.length c8 sg T A Q Z m Hm.out))⟩) ?_; simp only [Act.put, List.setIfInBounds_toArray, List.set_cons_zero, List.set_cons_succ]
              refine Txt.any1 11 (by decide) (by kernel_rfl) (by kernel_rfl) ?_
              simp only [List.getElem_toArray, List.getElem_cons_succ, List.getElem_cons_zero]
              first | (refine St.wp_store tyH rfl rfl rfl rfl (cs := (hd (.slice a8 sl.length c8) sg T A Q Z m).toArray) (hd_sz' Hm.out) (hd_one _ _ _ _ _ _ _ _ _) (HM.out.get 6 rfl) rfl ?_; have HM : Hid _ := HM.out.setr 6 rfl (hd (.slice a8 sl.length c8) sg T A Q Z m).toArray) | (refine St.wp_store tyH rfl rfl rfl rfl (cs := (hd (.slice a8 sl.length c8) sg T A Q Z m).toArray) (hd_sz' Hm.out) (hd_one _ _ _ _ _ _ _ _ _) (HM.out.get 5 rfl) rfl ?_; have HM : Hid _ := HM.out.setr 5 rfl (hd (.slice a8 sl.length c8) sg T A Q Z m).toArray)
              refine wpAny_done (by kernel_rfl) ?_ _
              refine ⟨rfl, ?_⟩
              first | exact ⟨_, _, _, rfl, HM.out.sub _ [0, 1, 5, 6] (by decide) rfl⟩ | exact ⟨_, _, _, rfl, HM.out.sub _ [0, 1, 6, 5] (by decide) rfl⟩
            · simp only [List.getElem_toArray, List.getElem_cons_succ, List.getElem_cons_zero]
              refine Txt.wp_ldN (n := 32) (ty := 24) rfl rfl (HM.out.range 0 rfl) (by kernel_rfl) (by rw [List.length_map]; exact Hm.out) ?_; simp only [Act.put, List.setIfInBounds_toArray, List.set_cons_zero, List.set_cons_succ]
              refine Txt.any1 3 (by decide) (by kernel_rfl) (by kernel_rfl) ?_
              simp only [List.getElem_toArray, List.getElem_cons_succ, List.getElem_cons_zero]
              refine Txt.wp_call Tryz.func29 (by kernel_rfl) (by kernel_rfl) rfl (vs := #[.slice a6 q c6]) rfl (height_any _ a6 q c6 _ (hat (HM.out.get 3 rfl)) (by omega)) ?_; rw [HSG.out]; rintro e w8 ⟨rfl, k8⟩; have HM : Hid _ := HM.out.calm k8; clear k8; refine ⟨_, rfl, ?_⟩; simp only [Act.put, List.setIfInBounds_toArray, List.set_cons_zero, List.set_cons_succ]
              refine wpAny_take (i := 9) (v := .agg (hd (.slice a8 sl.length c8) sg T A Q Z m).toArray) rfl (by kernel_rfl) (by decide +kernel) (by decide +kernel) (fun _ _ _ h => by cases h.1) (Or.inl ⟨by rfl, Txt.ex_build rfl [(0, .slice a8 sl.length c8), (1, .int .i64 sg), (2, .string T), (3, .int .i64 A), (4, .int .i64 Q), (5, .int .i64 Z), (6, idv m)] rfl (fun w => run_bld w _ _ (built_hd a8 sl.length c8 sg T A Q Z m Hm.out))⟩) ?_; simp only [Act.put, List.setIfInBounds_toArray, List.set_cons_zero, List.set_cons_succ]
              refine Txt.any1 11 (by decide) (by kernel_rfl) (by kernel_rfl) ?_
              simp only [List.getElem_toArray, List.getElem_cons_succ, List.getElem_cons_zero]
              first | (refine St.wp_store tyH rfl rfl rfl rfl (cs := (hd (.slice a8 sl.length c8) sg T A Q Z m).toArray) (hd_sz' Hm.out) (hd_one _ _ _ _ _ _ _ _ _) (HM.out.get 6 rfl) rfl ?_; have HM : Hid _ := HM.out.setr 6 rfl (hd (.slice a8 sl.length c8) sg T A Q Z m).toArray) | (refine St.wp_store tyH rfl rfl rfl rfl (cs := (hd (.slice a8 sl.length c8) sg T A Q Z m).toArray) (hd_sz' Hm.out) (hd_one _ _ _ _ _ _ _ _ _) (HM.out.get 5 rfl) rfl ?_; have HM : Hid _ := HM.out.setr 5 rfl (hd (.slice a8 sl.length c8) sg T A Q Z m).toArray)
              refine wpAny_done (by kernel_rfl) ?_ _
              refine ⟨rfl, ?_⟩
              first | exact ⟨_, _, _, rfl, HM.out.sub _ [0, 1, 5, 6] (by decide) rfl⟩ | exact ⟨_, _, _, rfl, HM.out.sub _ [0, 1, 6, 5] (by decide) rfl⟩
          · simp only [List.getElem_toArray, List.getElem_cons_succ, List.getElem_cons_zero]
            refine Txt.wp_ldN (n := 32) (ty := 24) rfl rfl (HM.out.range 0 rfl) (by kernel_rfl) (by rw [List.length_map]; exact Hm.out) ?_; simp only [Act.put, List.setIfInBounds_toArray, List.set_cons_zero, List.set_cons_succ]
            refine Txt.any1 1 (by decide) (by kernel_rfl) (by kernel_rfl) ?_
            simp only [List.getElem_toArray, List.getElem_cons_succ, List.getElem_cons_zero]
            refine Txt.wp_call Tryz.func28 (by kernel_rfl) (by kernel_rfl) rfl (vs := #[.slice a7 q c7]) rfl (set_any _ a7 q c7 _ (iat (HM.out.get 4 rfl)) (by omega)) ?_; rw [HSL.out]; rintro e w7 ⟨v7, rfl, n7⟩; obtain ⟨a8, c8, e8, _⟩ := n7.1.at; have HM : Hid _ := HM.out.add (x := ids v7 sl) n7.2.1 n7.1 (fun k hk => ⟨n7.2.2 k hk, n7.1.lt hk⟩); subst e8; clear n7; refine ⟨_, rfl, ?_⟩; simp only [Act.put, List.setIfInBounds_toArray, List.set_cons_zero, List.set_cons_succ]
            refine Txt.any1 3 (by decide) (by kernel_rfl) (by kernel_rfl) ?_
            simp only [List.getElem_toArray, List.getElem_cons_succ, List.getElem_cons_zero]
            refine Txt.wp_call Tryz.func29 (by kernel_rfl) (by kernel_rfl) rfl (vs := #[.slice a6 q c6]) rfl (height_any _ a6 q c6 _ (hat (HM.out.get 3 rfl)) (by omega)) ?_; rw [HSG.out]; rintro e w8 ⟨rfl, k8⟩; have HM : Hid _ := HM.out.calm k8; clear k8; refine ⟨_, rfl, ?_⟩; simp only [Act.put, List.setIfInBounds_toArray, List.set_cons_zero, List.set_cons_succ]
            refine wpAny_take (i := 9) (v := .agg (hd (.slice a8 sl.length c8) sg T A Q Z m).toArray) rfl (by kernel_rfl) (by decide +kernel) (by decide +kernel) (fun _ _ _ h => by cases h.1) (Or.inl ⟨by rfl, Txt.ex_build rfl [(0, .slice a8 sl.length c8), (1, .int .i64 sg), (2, .string T), (3, .int .i64 A), (4, .int .i64 Q), (5, .int .i64 Z), (6, idv m)] rfl (fun w => run_bld w _ _ (built_hd a8 sl.length c8 sg T A Q Z m Hm.out))⟩) ?_; simp only [Act.put, List.setIfInBounds_toArray, List.set_cons_zero, List.set_cons_succ]
            refine Txt.any1 11 (by decide) (by kernel_rfl) (by kernel_rfl) ?_
            simp only [List.getElem_toArray, List.getElem_cons_succ, List.getElem_cons_zero]
            first | (refine St.wp_store tyH rfl rfl rfl rfl (cs := (hd (.slice a8 sl.length c8) sg T A Q Z m).toArray) (hd_sz' Hm.out) (hd_one _ _ _ _ _ _ _ _ _) (HM.out.get 6 rfl) rfl ?_; have HM : Hid _ := HM.out.setr 6 rfl (hd (.slice a8 sl.length c8) sg T A Q Z m).toArray) | (refine St.wp_store tyH rfl rfl rfl rfl (cs := (hd (.slice a8 sl.length c8) sg T A Q Z m).toArray) (hd_sz' Hm.out) (hd_one _ _ _ _ _ _ _ _ _) (HM.out.get 5 rfl) rfl ?_; have HM : Hid _ := HM.out.setr 5 rfl (hd (.slice a8 sl.length c8) sg T A Q Z m).toArray)
            refine wpAny_done (by kernel_rfl) ?_ _
            refine ⟨rfl, ?_⟩
            first | exact ⟨_, _, _, rfl, HM.out.sub _ [0, 1, 5, 6] (by decide) rfl⟩ | exact ⟨_, _, _, rfl, HM.out.sub _ [0, 1, 6, 5] (by decide) rfl⟩
      rintro a' w' ⟨a8, c8, b20, rfl, hM⟩
      have HM : Hid _ := hM.out
      clear hM
      simp only [Act.put, List.setIfInBounds_toArray, List.set_cons_zero, List.set_cons_succ]
      obtain ⟨v, hv⟩ : ∃ v, ck sl.length sl sg T A Q Z = v := ⟨_, rfl⟩
      have Hv : Hid (ck sl.length sl sg T A Q Z = v) := hv
      have HC2 : Hid (∀ w', At w' a8 sl.length sl → Calls Tryz.prog 30 #[.agg (hd (.slice a8 sl.length c8) sg T A Q Z m).toArray] w' fun e w'' => e = .returned (.int .i64 v) ∧ Keep (fun _ => False) w' w'') := fun w' h => by rw [← hv]; exact HCk.out w' sl.length a8 c8 sl sg h (by have := Hsn.out; omega)
      clear hv
      by_cases h0 : v = 0
      · subst h0
        go_wp2_with (first | ((with_reducible refine at_load 28 ?_); refine St.wl_load tyH (by rfl) rfl rfl (HM.out.range 3 rfl) (hd_len _ _ _ _ _ _ _ Hm.out) ?_; simp only [Act.put, List.setIfInBounds_toArray, List.set_cons_zero, List.set_cons_succ]) | (go_at_call 30; refine (HC2.out _ (iat (HM.out.get 2 rfl))).mono ?_; rintro e w9 ⟨rfl, k9⟩; have HM : Hid _ := HM.out.calm k9; clear k9) | (refine St.wl_store tyH rfl rfl rfl rfl rfl (cs := (hd (.slice a8 sl.length c8) sg T A Q Z m).toArray) (hd_sz' Hm.out) (hd_one _ _ _ _ _ _ _ _ _) (HM.out.get 1 rfl) rfl ?_; have HM : Hid _ := HM.out.setr 1 rfl (hd (.slice a8 sl.length c8) sg T A Q Z m).toArray))
        refine bodyPost_ret (St.res2 tyH rfl _ _ _ (hd (.slice a8 sl.length c8) sg T A Q Z m).toArray (hd_sz' Hm.out) rfl (HM.out.get 1 rfl) _ rfl) rfl ?_
        refine .inr ⟨HB.out, .inr ?_⟩
        rw [Hsg.out, Hsl.out]
        exact ⟨Hv.out, a8, c8, rfl, newOf HM.out 2 rfl⟩
      · have h1 : (v != 0) = true := by simpa using h0
        have H0 : Hid (v ≠ 0) := h0
        clear h0
        go_wp2_with (first | ((with_reducible refine at_load 28 ?_); refine St.wl_load tyH (by rfl) rfl rfl (HM.out.range 3 rfl) (hd_len _ _ _ _ _ _ _ Hm.out) ?_; simp only [Act.put, List.setIfInBounds_toArray, List.set_cons_zero, List.set_cons_succ]) | (go_at_call 30; refine (HC2.out _ (iat (HM.out.get 2 rfl))).mono ?_; rintro e w9 ⟨rfl, k9⟩; have HM : Hid _ := HM.out.calm k9; clear k9) | (refine St.wl_buildV (T := 28) (parts := #[]) rfl rfl (cs := hz0) (by kernel_rfl) ?_; simp only [Act.put, List.setIfInBounds_toArray, List.set_cons_zero, List.set_cons_succ]) | (refine St.wl_store tyH rfl rfl rfl rfl rfl (cs := hz0) rfl (hd_one _ _ _ _ _ _ _ _ _) (HM.out.get 1 rfl) rfl ?_; have HM : Hid _ := HM.out.setr 1 rfl hz0))
        refine bodyPost_ret (St.res2 tyH rfl _ _ _ hz0 rfl rfl (HM.out.get 1 rfl) _ rfl) rfl ?_
        refine .inr ⟨HB.out, .inl ?_⟩
        rw [Hsg.out, Hsl.out, Hv.out]
        exact ⟨H0.out, rfl, HM.out.keep⟩
end Nx
end Go.Proofs.YtgllkfolckbdhaaGreatDoor
