/-
  petrelref15.Next: a header behind heads, as the document has it.
-/
import Derived.Test.YtgllkfolckbdhaaGreatDoorNx5
import Derived.Test.YtgllkfolckbdhaaGreatDoorPx2
import Derived.Test.YtgllkfolckbdhaaGreatDoorGRf
set_option linter.unusedVariables false
set_option linter.unusedSimpArgs false
namespace Go.Proofs.YtgllkfolckbdhaaGreatDoor
open Go.RowKit
namespace Txt
section
variable {P : Program} {ops : Array Oper} {o : Oper} {a : Act} {w : World} {K : Act → World → Prop} {Q : Exit → Act → World → Prop}
theorem anyw {n fuel : Nat} {listed : Array Bool} (rs : List Nat) (hn : n = fuel + 1) (hr : Region.ready .any ops listed = rs) (hne : rs ≠ []) (h : ∀ i ∈ rs, wpOp P ops Q i (wpAny P .any ops Q fuel (listed.setIfInBounds i true)) a w) : wpAny P .any ops Q n listed a w := by
  subst hn
  exact wpAny_all hr hne h
theorem all1 {p : Nat → Prop} {i : Nat} (h : p i) : ∀ x ∈ [i], p x := fun x hx => by obtain rfl := List.mem_singleton.1 hx; exact h
theorem all2 {p : Nat → Prop} {i j : Nat} (h : p i) (h' : p j) : ∀ x ∈ [i, j], p x := fun x hx => by
  rcases List.mem_cons.1 hx with rfl | hx
  · exact h
  · exact all1 h' x hx
theorem all3 {p : Nat → Prop} {i j m : Nat} (h : p i) (h' : p j) (h'' : p m) : ∀ x ∈ [i, j, m], p x := fun x hx => by
  rcases List.mem_cons.1 hx with rfl | hx
  · exact h
  · exact all2 h' h'' x hx
theorem opw {i : Nat} (ho : ops.toList[i]? = some o) (hw : Region.wanted o (yielded ops a.tmps) = true) (h : o.wp P a w K Q) : wpOp P ops Q i K a w := by
  unfold wpOp
  rw [Array.getElem?_toList] at ho
  rw [ho]
  show (if _ then _ else _)
  rw [if_pos hw]
  exact .inl h
end
end Txt
namespace Nx
open Oct Ids Gn Hd Ru
open Mem (M It blk ids rows)
/-- Ids of headers, as they lie. -/
def eHi (x : Hh) : List Value := (hiv x).map bv
theorem encHi : St.Enc 32 eHi := by
  refine ⟨fun x => by unfold eHi; rw [List.length_map, hiv_len], fun x u hu => ?_⟩
  obtain ⟨y, _, rfl⟩ := List.mem_map.1 hu
  rfl
theorem slHi : SlT Tryz.prog 26 24 (.agg z32) 32 32 := slId
theorem orng {α : Type} {T : TypeId} {n : Nat} {enc : α → List Value} {w : World} {g q c i : Nat} {L : List α} {y : α} (h : St.Own T n enc w (.slice (some ⟨g, 0, none⟩) q c) L) (hy : L[i]? = some y) : w.rangeAt g (i * n) (enc y) := by
  have hat := hat h
  rcases hat.lay with h0 | ⟨b, off, e, _, hr⟩
  · have := (List.getElem?_eq_some_iff.1 hy).1
    have := hat.len
    omega
  · simp only [Option.some.injEq, Addr.mk.injEq] at e
    obtain ⟨rfl, rfl, -⟩ := e
    have := hr i y hy
    rwa [Nat.zero_add] at this
theorem kcut (L : List Hh) (k : Nat) : (L.take k ++ L.drop (k + 1)).map hkey = (L.map hkey).take k ++ (L.map hkey).drop (k + 1) := by
  rw [List.map_append, List.map_take, List.map_drop]
theorem keys_ids (L : List Hh) : (L.map hkey).map (fun k => k.2) = L.map hiv := by rw [List.map_map]; rfl
theorem keys_hgt (L : List Hh) : hgt L = most ((L.map hkey).map fun k => min k.1 1073741824) + 1 := by
  unfold hgt; rw [List.map_map]; rfl
theorem upNew {F : Nat → Prop} {w0 w w' : World} {l : List It} (h : M F w0 w l) (i : Nat) {v v' : Value} {L L' : List (List UInt8)} (hi : l[i]? = some (ids v L)) (k : Keep (fun _ => False) w w') (h1 : Own w' v' L') (h3 : v' = v ∨ ∀ k, v'.ownBlock = some k → w.heap.size ≤ k) : M F w0 w' (l.set i (ids v' L')) :=
  h.upd i hi k (fun _ h => h.elim) (y := ids v' L') h1 (fun k hk => by
    rcases h3 with rfl | h3
    · exact .inl hk
    · exact .inr ⟨h3 k hk, h1.lt hk⟩)
attribute [local irreducible] Oper.wp wpOp
set_option maxRecDepth 100000 in
set_option maxHeartbeats 16000000 in
theorem xnext_any (w : World) (a : Option Addr) (n c : Nat) (K : List Hh) (hA : St.At 38 he w a n K) (hk : ∀ x ∈ K, Hok w x) (hn : n ≤ 20) (T : ByteArray) (A Q Z : Int) (m : List UInt8) (hm : m.length = 32) (hT : T.size ≤ maxLen) :
    Calls Tryz.prog 9 #[.slice a n c, .string T, .int .i64 A, .int .i64 Q, .int .i64 Z, idv m] w (NextPost w K T A Q Z m) := by
  have HA : Hid (St.At 38 he w a n K) := hA
  have HI0 : Hid (∀ x ∈ K, ∀ w', Keep (fun _ => False) w w' → Calls Tryz.prog 31 #[.agg (he x).toArray] w' fun e w'' => e = .returned (.tuple #[idv (hiv x), .int .i64 (hck x)]) ∧ Keep (fun _ => False) w' w'') := fun x hx w' k => hrident w' x ((hk x hx).calm k)
  have HM : Hid (M (fun _ => False) w _ [blk w.heap.size (.cells (m.map bv).toArray 24), blk (w.heap.size + 1) (.cells hz0 28)]) := ((M.start _ w).alloc (.cells (m.map bv).toArray 24) rfl).alloc (.cells hz0 28) (by simp)
  have Hm : Hid (m.length = 32) := hm
  have HT : Hid (T.size ≤ maxLen) := hT
  have HKl : Hid (K.length = n) := hA.len
  have HCk : Hid (∀ w' n' a' c' l G, At w' a' n' l → n' ≤ 1000000 → Calls Tryz.prog 35 #[.agg (hd (.slice a' n' c') G T A Q Z m).toArray] w' fun e w'' => e = .returned (.int .i64 (ck n' l G T A Q Z)) ∧ Keep (fun _ => False) w' w'') := fun w' n' a' c' l G h h2 => rcheck_any w' a' n' c' l G T A Q Z m h Hm.out HT.out _ rfl
  clear hA hk hm hT
  go_enter Tryz.func9, Tryz.ntmps9
  go_wp2_with (first | (refine St.wl_alloc tyH rfl rfl (by (try simp only [World.size_alloc]); rfl) ?_; simp only [Act.put, List.setIfInBounds_toArray, List.set_cons_zero, List.set_cons_succ]) | (refine St.wl_build0 encHe slHe rfl rfl ?_; intro o1; have HM : Hid _ := Mem.M.row0 HM.out (T := 28) encHe rfl; clear o1; simp only [Act.put, List.setIfInBounds_toArray, List.set_cons_zero, List.set_cons_succ]) | (refine St.wl_appR encHe slHe (by decide) rfl rfl rfl (HM.out.get 2 rfl) rfl (HA.out.calm HM.out.keep) (by simp; omega) ?_; intro v2 w2 h2 k2 g2; have HM : Hid _ := HM.out.appR 2 rfl h2 k2 g2; clear h2 k2 g2; rw [List.nil_append] at HM; obtain ⟨al, cl, e2, _⟩ := (show St.Own 28 38 he w2 v2 K from HM.out.get 2 rfl).any; rw [HKl.out] at e2; subst e2; simp only [Act.put, List.setIfInBounds_toArray, List.set_cons_zero, List.set_cons_succ]))
  have HM : Hid _ := HM.out.nilR 24 32 eHi
  go_loopw [15, 16] (fun s15 i wr => ∃ (k : Nat) (v : Value), k ≤ n ∧ i = .int .i64 k ∧ s15 = v ∧ (∀ (j : Nat) (y : Hh), j < k → K[j]? = some y → hck y = 0) ∧ M (fun _ => False) w wr [blk w.heap.size (.cells (m.map bv).toArray 24), blk (w.heap.size + 1) (.cells hz0 28), rows 28 38 he (.slice al n cl) K, rows 24 32 eHi v (K.take k)]) (fun _ i _ => n - (intOf i).toNat)
  case atStart => exact ⟨0, _, Nat.zero_le _, rfl, rfl, fun j y hj => absurd hj (Nat.not_lt_zero _), HM.out⟩
  case round =>
    clear HM
    obtain ⟨k, v, hkn, rfl, hv, hno, hM⟩ := hrel
    replace hv := hv.symm
    subst hv
    have HM : Hid _ := hM
    have HNo : Hid (∀ (j : Nat) (y : Hh), j < k → K[j]? = some y → hck y = 0) := hno
    clear hM hno
    by_cases hlt : k < n
    · obtain ⟨x, hx⟩ : ∃ x, K[k]? = some x := ⟨_, List.getElem?_eq_getElem (by rw [HA.out.len]; exact hlt)⟩
      obtain ⟨b1, o1, rfl, hb1, hr1⟩ : ∃ b off, al = some ⟨b, off, none⟩ ∧ b < wr.heap.size ∧ ∀ i x, K[i]? = some x → wr.rangeAt b (off + i * 38) (he x) := by rcases (hat (show St.Own 28 38 he wr (.slice al n cl) K from HM.out.get 2 rfl)).lay with e | e; omega; exact e
      have R1 : Hid (wr.rangeAt b1 (o1 + k * 38) (he x)) := hr1 k x hx
      have Hx : Hid (K[k]? = some x) := hx
      have HI : Hid (∀ w', Keep (fun _ => False) w w' → Calls Tryz.prog 31 #[.agg (he x).toArray] w' fun e w'' => e = .returned (.tuple #[idv (hiv x), .int .i64 (hck x)]) ∧ Keep (fun _ => False) w' w'') := HI0.out x (List.mem_of_getElem? hx)
      have E1 : Hid (K.take (k + 1) = K.take k ++ [x]) := take_snoc hx
      have Hl : Hid ((K.take k).length ≤ 1000000) := by show _ ≤ _; rw [List.length_take]; omega
      have Hul : Hid ((hiv x).length = 32) := hiv_len x
      have Hum : Hid (((hiv x).map bv).toArray.size = 32) := by show _ = _; rw [List.size_toArray, List.length_map]; exact Hul.out
      obtain ⟨t, ht⟩ : ∃ t, hck x = t := ⟨_, rfl⟩
      have Ht : Hid (hck x = t) := ht
      rw [ht] at HI
      clear hr1 hx hb1 ht
      by_cases h0 : t = 0
      · subst h0
        go_wp2_with (first | ((with_reducible refine at_load 28 ?_); refine St.wl_load tyH (by rfl) rfl rfl R1.out (he_len x) ?_; simp only [Act.put, List.setIfInBounds_toArray, List.set_cons_zero, List.set_cons_succ]) | (go_at_call 31; refine (HI.out _ HM.out.keep).mono ?_; rintro e w2 ⟨rfl, k2⟩; have HM : Hid _ := HM.out.calm k2; clear k2) | (refine St.wl_alloc tyI rfl rfl (by (try simp only [World.size_alloc]); rfl) ?_; simp only [Act.put, List.setIfInBounds_toArray, List.set_cons_zero, List.set_cons_succ]) | (refine St.wl_storeN (W := w2) tyI rfl rfl rfl rfl rfl (by (try simp only [World.size_alloc])) (show _ = Value.agg ((hiv x).map bv).toArray from rfl) Hum.out rfl (one_bv _) ?_; have HM : Hid _ := HM.out.alloc (.cells ((hiv x).map bv).toArray 24) rfl) | ((with_reducible refine at_load 24 ?_); refine wl_loadG (by rfl) rfl rfl Hul.out (HM.out.range 4 rfl) ?_; simp only [Act.put, List.setIfInBounds_toArray, List.set_cons_zero, List.set_cons_succ]) | (refine Ids.wl_build rfl rfl Hul.out rfl ?_; have HM : Hid _ := HM.out.alloc (.cells ((hiv x).map bv).toArray 24) (by first | rfl | simp only [World.size_alloc]); simp only [Act.put, List.setIfInBounds_toArray, List.set_cons_zero, List.set_cons_succ]) | (refine St.wl_app1 slHi (by decide) rfl rfl rfl (HM.out.get 3 rfl) rfl (encHi.len x) (encHi.all x) (heap_alloc_new _ _) Hl.out ?_; intro v3 w3 h1 k1 h3; have HM : Hid _ := HM.out.appR 3 rfl h1 k1 h3; clear h1 k1 h3; simp only [Act.put, List.setIfInBounds_toArray, List.set_cons_zero, List.set_cons_succ]))
        go_roundw
        case rel =>
          refine ⟨k + 1, _, by omega, rfl, rfl, fun j y hj hy => ?_, by rw [E1.out]; exact HM.out.take 4⟩
          rcases Nat.lt_or_ge j k with h | h
          · exact HNo.out j y h hy
          · obtain rfl : j = k := by omega
            rw [Hx.out] at hy
            cases hy
            exact Ht.out
        case measure => simp [intOf]; omega
      · have h1 : (t != 0) = true := by simpa using h0
        have HBd : Hid (bad K = some t) := by show _ = _; rw [← Ht.out]; exact bad_some Hx.out (by rw [Ht.out]; exact h0) HNo.out
        clear h0
        go_wp2_with (first | ((with_reducible refine at_load 28 ?_); refine St.wl_load tyH (by rfl) rfl rfl R1.out (he_len x) ?_; simp only [Act.put, List.setIfInBounds_toArray, List.set_cons_zero, List.set_cons_succ]) | (go_at_call 31; refine (HI.out _ HM.out.keep).mono ?_; rintro e w2 ⟨rfl, k2⟩; have HM : Hid _ := HM.out.calm k2; clear k2) | (refine St.wl_alloc tyI rfl rfl (by (try simp only [World.size_alloc]); rfl) ?_; simp only [Act.put, List.setIfInBounds_toArray, List.set_cons_zero, List.set_cons_succ]) | (refine St.wl_storeN (W := w2) tyI rfl rfl rfl rfl rfl (by (try simp only [World.size_alloc])) (show _ = Value.agg ((hiv x).map bv).toArray from rfl) Hum.out rfl (one_bv _) ?_; have HM : Hid _ := HM.out.alloc (.cells ((hiv x).map bv).toArray 24) rfl) | (refine St.wl_buildV (T := 28) (parts := #[]) rfl rfl (cs := hz0) (by kernel_rfl) ?_; simp only [Act.put, List.setIfInBounds_toArray, List.set_cons_zero, List.set_cons_succ]) | (refine St.wl_store tyH rfl rfl rfl rfl rfl (cs := hz0) rfl (hd_one _ _ _ _ _ _ _ _ _) (HM.out.get 1 rfl) rfl ?_; have HM : Hid _ := HM.out.setr 1 rfl hz0))
        refine bodyPost_ret (St.res2 tyH rfl _ _ _ hz0 rfl rfl (HM.out.get 1 rfl) _ rfl) rfl ?_
        exact .inl ⟨t, HBd.out, rfl, HM.out.keep⟩
    · obtain rfl : k = n := by omega
      have e : K.take k = K := List.take_of_length_le (by rw [HA.out.len]; exact Nat.le_refl _)
      rw [e] at HM
      have HBd : Hid (bad K = none) := bad_none (fun j y hj => HNo.out j y (by rw [← HA.out.len]; exact (List.getElem?_eq_some_iff.1 hj).1) hj)
      clear HI0 HNo e
      go_wp2
      have HM : Hid _ := (HM.out.nilR 28 38 he).nilI
      go_loopg [14, 15, 19, 20] k (fun kx s14 s15 s19 s20 wr => ∃ (TK LF : List Hh) (lv iv tv pv : Value), s14 = lv ∧ s15 = iv ∧ s19 = tv ∧ s20 = pv ∧ LF.length = kx ∧ LF.length ≤ 20 ∧ TK.length ≤ 4 ∧ Picked (K.map hkey) (TK.map hkey) (LF.map hkey) ∧ M (fun _ => False) w wr [blk w.heap.size (.cells (m.map bv).toArray 24), blk (w.heap.size + 1) (.cells hz0 28), rows 28 38 he lv LF, rows 24 32 eHi iv LF, rows 28 38 he tv TK, ids pv (IdL.setL (TK.map hiv))])
      case atStart => exact ⟨[], K, _, _, _, _, rfl, rfl, rfl, rfl, HKl.out, by rw [HKl.out]; omega, by simp, Picked.start _, HM.out⟩
      case round =>
        clear HM
        obtain ⟨TK, LF, lv, iv, tv, pv, e1, e2, e3, e4, hlf, hkx, htk, hp, hM⟩ := hrel
        replace e1 := e1.symm
        replace e2 := e2.symm
        replace e3 := e3.symm
        replace e4 := e4.symm
        subst e1 e2 e3 e4
        have HM : Hid _ := hM
        have HPk : Hid (Picked (K.map hkey) (TK.map hkey) (LF.map hkey)) := hp
        have HLF : Hid (LF.length = _) := hlf
        clear hM hp hlf
        by_cases hlt : TK.length < 4 ∧ 0 < LF.length
        · obtain ⟨ht4, hl0⟩ := hlt
          obtain ⟨gl, cl2, e1, hlc, hlm, _⟩ := Px.own_some (show St.Own 28 38 he wr lv LF from HM.out.get 2 rfl) hl0
          obtain ⟨gi, ci, e2, hic, him, _⟩ := Px.own_some (show St.Own 24 32 eHi wr iv LF from HM.out.get 3 rfl) hl0
          obtain ⟨at_, ct, e3, _⟩ := (show St.Own 28 38 he wr tv TK from HM.out.get 4 rfl).any
          subst e1 e2 e3
          obtain ⟨ql, hql⟩ : ∃ q, LF.length = q := ⟨_, rfl⟩
          obtain ⟨tn, htn⟩ : ∃ q, TK.length = q := ⟨_, rfl⟩
          rw [hql] at hlc hic hl0 hkx HLF
          rw [hql, htn] at HM
          rw [htn] at ht4
          rw [hql, htn]
          have HQL : Hid (LF.length = ql) := hql
          have HTN : Hid (TK.length = tn) := htn
          clear hql htn htk
          unfold maxLen at hlm him
          go_wp2
          go_loopw [21, 22] (fun s21 s22 wr => ∃ (kk i : Nat), s21 = .int .i64 kk ∧ s22 = .int .i64 i ∧ kk < i ∧ i ≤ ql ∧ (∀ (j : Nat) (x y : Hh), j < i → LF[kk]? = some x → LF[j]? = some y → kah (hkey x) (hkey y) = false) ∧ M (fun _ => False) w wr [blk w.heap.size (.cells (m.map bv).toArray 24), blk (w.heap.size + 1) (.cells hz0 28), rows 28 38 he (.slice (some ⟨gl, 0, none⟩) ql cl2) LF, rows 24 32 eHi (.slice (some ⟨gi, 0, none⟩) ql ci) LF, rows 28 38 he (.slice at_ tn ct) TK, ids pv (IdL.setL (TK.map hiv))]) (fun _ s22 _ => ql - (intOf s22).toNat)
          case atStart => exact ⟨0, 1, by go_num, by go_num, by omega, by omega, fun j x y hj hx hy => by (obtain rfl : j = 0 := by omega); rw [hx] at hy; cases hy; exact kah_self _, HM.out⟩
          case round =>
            clear HM
            obtain ⟨kk, i, rfl, rfl, hki, hiq, hmx, hM⟩ := hrel
            have HM : Hid _ := hM
            have HMx : Hid (∀ (j : Nat) (x y : Hh), j < i → LF[kk]? = some x → LF[j]? = some y → kah (hkey x) (hkey y) = false) := hmx
            clear hM hmx
            obtain ⟨x, hx⟩ : ∃ x, LF[kk]? = some x := ⟨_, List.getElem?_eq_getElem (by rw [HQL.out]; omega)⟩
            have Hx : Hid (LF[kk]? = some x) := hx
            have Hul : Hid ((hiv x).length = 32) := hiv_len x
            by_cases hlt2 : i < ql
            · obtain ⟨y, hy⟩ : ∃ x, LF[i]? = some x := ⟨_, List.getElem?_eq_getElem (by rw [HQL.out]; omega)⟩
              have Hy : Hid (LF[i]? = some y) := hy
              have HM : Hid _ := HM.out.drew
              have d1 : World.cell? _ ⟨gl, kk * 38 + 1, none⟩ = some (.int .i64 x.G) := orng (show St.Own 28 38 he _ (.slice (some ⟨gl, 0, none⟩) ql cl2) LF from HM.out.get 2 rfl) hx 1 _ rfl
              have d2 : World.cell? _ ⟨gl, i * 38 + 1, none⟩ = some (.int .i64 y.G) := orng (show St.Own 28 38 he _ (.slice (some ⟨gl, 0, none⟩) ql cl2) LF from HM.out.get 2 rfl) hy 1 _ rfl
              have R3 : Hid (World.rangeAt _ gi (kk * 32) ((hiv x).map bv)) := orng (enc := eHi) (show St.Own 24 32 eHi _ (.slice (some ⟨gi, 0, none⟩) ql ci) LF from HM.out.get 3 rfl) hx
              have R4 : Hid (World.rangeAt _ gi (i * 32) ((hiv y).map bv)) := orng (enc := eHi) (show St.Own 24 32 eHi _ (.slice (some ⟨gi, 0, none⟩) ql ci) LF from HM.out.get 3 rfl) hy
              obtain ⟨p, hp⟩ : ∃ p, kah (hkey x) (hkey y) = p := ⟨_, rfl⟩
              have Hp : Hid (kah (hkey x) (hkey y) = p) := hp
              have HAh : Hid (∀ w', Calls Tryz.prog 32 #[.int .i64 x.G, idv (hiv x), .int .i64 y.G, idv (hiv y)] w' fun e w'' => e = .returned (.bool p) ∧ Keep (fun _ => False) w' w'') := fun w' => xahead_any w' x.G y.G (hiv x) (hiv y) (hiv_len x) (hiv_len y) p hp
              have Huy : Hid ((hiv y).length = 32) := hiv_len y
              have hkq : kk < ql := by omega
              clear hx hy hp
              go_wp2
              refine Txt.wp_region_text (fun _ => True) [0, 0, 0, 0, 1, 0, 0, 0, 1, 0, 0, 0, 0, 1, 0, 0, 0, 1, 4] (by kernel_rfl) (by kernel_rfl) trivial ?_
              (repeat (first | (refine Txt.tl_pure (v := ?_) (by rfl) ?_ ?_; rotate_left; (focus (intro _; go_simp; try with_reducible rfl)); simp only [Act.put, List.setIfInBounds_toArray, List.set_cons_zero, List.set_cons_succ]) | (refine Txt.tl_load (v := .int .i64 x.G) (by rfl) (by rfl) (by rfl) (by kernel_rfl) d1 ?_; simp only [Act.put, List.setIfInBounds_toArray, List.set_cons_zero, List.set_cons_succ]) | (refine Txt.tl_load (v := .int .i64 y.G) (by rfl) (by rfl) (by rfl) (by kernel_rfl) d2 ?_; simp only [Act.put, List.setIfInBounds_toArray, List.set_cons_zero, List.set_cons_succ]) | (refine Txt.tl_rowN (n := 32) (ty := 24) (by rfl) (by rfl) (by rfl) R3.out (by kernel_rfl) (by rw [List.length_map]; exact Hul.out) ?_; simp only [Act.put, List.setIfInBounds_toArray, List.set_cons_zero, List.set_cons_succ]) | (refine Txt.tl_rowN (n := 32) (ty := 24) (by rfl) (by rfl) (by rfl) R4.out (by kernel_rfl) (by rw [List.length_map]; exact Huy.out) ?_; simp only [Act.put, List.setIfInBounds_toArray, List.set_cons_zero, List.set_cons_succ])))
              refine Txt.tl_call Tryz.func32 (by kernel_rfl) (by kernel_rfl) (by rfl) (by rfl) (by rfl) (vs := #[.int .i64 x.G, idv (hiv x), .int .i64 y.G, idv (hiv y)]) (HAh.out _) ?_
              rintro e w5 ⟨rfl, k5⟩
              have HM : Hid _ := HM.out.calm k5
              clear k5 d1 d2 R3 R4
              refine ⟨_, rfl, trivial, ?_⟩
              simp only [Act.put, List.setIfInBounds_toArray, List.set_cons_zero, List.set_cons_succ]
              refine Txt.tl_nil ?_
              cases p with
              | true =>
                go_wp2
                go_roundw
                case rel =>
                  refine ⟨i, i + 1, rfl, rfl, by omega, by omega, fun j x' y' hj hx' hy' => ?_, HM.out⟩
                  rw [Hy.out] at hx'
                  cases hx'
                  rcases Nat.lt_or_ge j i with h | h
                  · exact knot_trans (kah_anti Hp.out) (HMx.out j x y' h Hx.out hy')
                  · obtain rfl : j = i := by omega
                    rw [Hy.out] at hy'
                    cases hy'
                    exact kah_self _
                case measure => simp [intOf]; omega
              | false =>
                go_wp2
                go_roundw
                case rel =>
                  refine ⟨kk, i + 1, rfl, rfl, by omega, by omega, fun j x' y' hj hx' hy' => ?_, HM.out⟩
                  rcases Nat.lt_or_ge j i with h | h
                  · exact HMx.out j x' y' h hx' hy'
                  · obtain rfl : j = i := by omega
                    rw [Hy.out] at hy'
                    cases hy'
                    rw [Hx.out] at hx'
                    cases hx'
                    exact Hp.out
                case measure => simp [intOf]; omega
            · obtain ⟨p, hp⟩ : ∃ p, kk + 1 = p := ⟨_, rfl⟩
              have HP : Hid (kk + 1 = p) := hp
              have hpw : IntKind.i64.wrap ((kk : Int) + 1) = (p : Int) := by rw [IntWalk.i64_in _ (by omega)]; omega
              have hpq : (p : Int) ≤ (ql : Int) := by omega
              have hkq : kk < ql := by omega
              have hkz : (kk : Int) ≤ (ql : Int) := by omega
              have hk1 : (kk : Int) ≤ (cl2 : Int) := by omega
              have hk2 : (kk : Int) ≤ (ci : Int) := by omega
              have hq1 : (ql : Int) ≤ (cl2 : Int) := by omega
              have hq2 : (ql : Int) ≤ (ci : Int) := by omega
              have Hlt : Hid (TK.length ≤ 1000000) := by show _ ≤ _; rw [HTN.out]; omega
              have Hst : Hid ((IdL.setL (TK.map hiv)).length ≤ 100000) := Nat.le_trans (IdL.setL_len _) (by rw [List.length_map, HTN.out]; omega)
              have R1 : Hid (World.rangeAt _ gl (kk * 38) (he x)) := orng (show St.Own 28 38 he wr (.slice (some ⟨gl, 0, none⟩) ql cl2) LF from HM.out.get 2 rfl) hx
              have HNx : Hid (Picked (K.map hkey) ((TK ++ [x]).map hkey) ((LF.take kk ++ LF.drop (kk + 1)).map hkey)) := by
                show Picked _ _ _
                rw [List.map_append, kcut]
                refine HPk.out.next (by rw [List.getElem?_map, hx]; rfl) (fun y' hy' => ?_)
                obtain ⟨z, hz, rfl⟩ := List.mem_map.1 hy'
                obtain ⟨j, hj⟩ := List.getElem?_of_mem hz
                exact HMx.out j x z (by have := (List.getElem?_eq_some_iff.1 hj).1; rw [HQL.out] at this; omega) hx hj
              have HSx : Hid (IdL.setL ((TK ++ [x]).map hiv) = IdL.withL (IdL.setL (TK.map hiv)) (hiv x)) := by show _ = _; rw [List.map_append]; exact IdL.setL_snoc _ _
              clear hp hx
              go_wp2_with (first | ((with_reducible refine at_load 28 ?_); refine St.wl_load tyH (by rfl) rfl rfl R1.out (he_len x) ?_; simp only [Act.put, List.setIfInBounds_toArray, List.set_cons_zero, List.set_cons_succ]) | (refine St.wl_build slHe (by decide) rfl rfl (he_len x) rfl ?_; have HM : Hid _ := HM.out.alloc (.cells (he x).toArray 28) (by first | rfl | simp only [World.size_alloc]); simp only [Act.put, List.setIfInBounds_toArray, List.set_cons_zero, List.set_cons_succ]) | (refine St.wl_app1 slHe (by decide) rfl rfl rfl (HM.out.get 4 rfl) rfl (he_len x) (he_one x) (HM.out.get 6 rfl) Hlt.out ?_; intro v3 w3 h1 k1 h3; have HM : Hid _ := HM.out.appR 4 rfl h1 k1 h3; clear h1 k1 h3; have R3 : Hid (World.rangeAt w3 gi (kk * 32) ((hiv x).map bv)) := orng (enc := eHi) (show St.Own 24 32 eHi w3 (.slice (some ⟨gi, 0, none⟩) ql ci) LF from HM.out.get 3 rfl) Hx.out; simp only [Act.put, List.setIfInBounds_toArray, List.set_cons_zero, List.set_cons_succ]) | ((with_reducible refine at_load 24 ?_); refine wl_loadG (by rfl) rfl rfl Hul.out R3.out ?_; simp only [Act.put, List.setIfInBounds_toArray, List.set_cons_zero, List.set_cons_succ]) | (go_at_call 33; refine (xwith_own _ pv _ (HM.out.get 5 rfl) Hst.out (hiv x) Hul.out).mono ?_; rintro e w4 ⟨v4, rfl, o4, k4, f4⟩; have HM : Hid _ := (upNew HM.out 5 rfl k4 o4 f4).take 6; clear o4 k4 f4))
              refine Txt.wp_region_text (fun _ => True) [3, 0, 0, 0, 4, 0, 0, 0, 0, 4, 0] (by kernel_rfl) (by kernel_rfl) trivial ?_
              have HM : Hid _ := HM.out.drew
              (repeat (first | (refine Txt.tl_pure (v := ?_) (by rfl) ?_ ?_; rotate_left; (focus (intro _; go_simp; try with_reducible rfl)); simp only [Act.put, List.setIfInBounds_toArray, List.set_cons_zero, List.set_cons_succ]) | (refine Txt.tl_load (v := ?_) (by rfl) (by rfl) (by rfl) (by kernel_rfl) ?_ ?_; rotate_left; (focus assumption); simp only [Act.put, List.setIfInBounds_toArray, List.set_cons_zero, List.set_cons_succ]) | (refine Txt.tl_loadS (v := ?_) (by rfl) (by rfl) (by rfl) (by kernel_rfl) ?_ ?_; rotate_left; (focus (exact fun _ h => h)); simp only [Act.put, List.setIfInBounds_toArray, List.set_cons_zero, List.set_cons_succ])))
              refine Txt.tl_alloc (by rfl) ?_
              refine St.wp_build0z slHe rfl ?_
              have HM : Hid _ := Mem.M.row0 HM.out (T := 28) encHe rfl
              refine ⟨⟨Txt.Le.alloc _ _, trivial⟩, ?_⟩
              simp only [Act.put, List.setIfInBounds_toArray, List.set_cons_zero, List.set_cons_succ]
              (repeat (first | (refine Txt.tl_pure (v := ?_) (by rfl) ?_ ?_; rotate_left; (focus (intro _; go_simp; try with_reducible rfl)); simp only [Act.put, List.setIfInBounds_toArray, List.set_cons_zero, List.set_cons_succ]) | (refine Txt.tl_load (v := ?_) (by rfl) (by rfl) (by rfl) (by kernel_rfl) ?_ ?_; rotate_left; (focus assumption); simp only [Act.put, List.setIfInBounds_toArray, List.set_cons_zero, List.set_cons_succ]) | (refine Txt.tl_loadS (v := ?_) (by rfl) (by rfl) (by rfl) (by kernel_rfl) ?_ ?_; rotate_left; (focus (exact fun _ h => h)); simp only [Act.put, List.setIfInBounds_toArray, List.set_cons_zero, List.set_cons_succ])))
              refine Txt.tl_loud (by rfl) ?_
              refine St.wp_appRz encHe slHe (by decide) rfl rfl (HM.out.get 6 rfl) rfl (Px.own_cut (HM.out.get 2 rfl) kk (by omega)) (by simp; omega) ?_
              intro v6 w6 h6 k6 g6
              have HM : Hid _ := HM.out.appR 6 rfl h6 k6 g6
              clear h6 k6 g6
              refine ⟨trivial, ?_⟩
              simp only [Act.put, List.setIfInBounds_toArray, List.set_cons_zero, List.set_cons_succ]
              (repeat (first | (refine Txt.tl_pure (v := ?_) (by rfl) ?_ ?_; rotate_left; (focus (intro _; go_simp; try with_reducible rfl)); simp only [Act.put, List.setIfInBounds_toArray, List.set_cons_zero, List.set_cons_succ]) | (refine Txt.tl_load (v := ?_) (by rfl) (by rfl) (by rfl) (by kernel_rfl) ?_ ?_; rotate_left; (focus assumption); simp only [Act.put, List.setIfInBounds_toArray, List.set_cons_zero, List.set_cons_succ]) | (refine Txt.tl_loadS (v := ?_) (by rfl) (by rfl) (by rfl) (by kernel_rfl) ?_ ?_; rotate_left; (focus (exact fun _ h => h)); simp only [Act.put, List.setIfInBounds_toArray, List.set_cons_zero, List.set_cons_succ])))
              refine Txt.tl_loud (by rfl) ?_
              refine St.wp_appRz encHe slHe (by decide) rfl rfl (HM.out.get 6 rfl) rfl (Px.own_tl (HM.out.get 2 rfl) p (by omega) (by omega)) (by simp; omega) ?_
              intro lv7 w7 h7 k7 g7
              have HM : Hid _ := HM.out.appR 6 rfl h7 k7 g7
              rw [List.nil_append] at HM
              clear h7 k7 g7
              refine ⟨trivial, ?_⟩
              simp only [Act.put, List.setIfInBounds_toArray, List.set_cons_zero, List.set_cons_succ]
              (repeat (first | (refine Txt.tl_pure (v := ?_) (by rfl) ?_ ?_; rotate_left; (focus (intro _; go_simp; try with_reducible rfl)); simp only [Act.put, List.setIfInBounds_toArray, List.set_cons_zero, List.set_cons_succ]) | (refine Txt.tl_load (v := ?_) (by rfl) (by rfl) (by rfl) (by kernel_rfl) ?_ ?_; rotate_left; (focus assumption); simp only [Act.put, List.setIfInBounds_toArray, List.set_cons_zero, List.set_cons_succ]) | (refine Txt.tl_loadS (v := ?_) (by rfl) (by rfl) (by rfl) (by kernel_rfl) ?_ ?_; rotate_left; (focus (exact fun _ h => h)); simp only [Act.put, List.setIfInBounds_toArray, List.set_cons_zero, List.set_cons_succ])))
              refine Txt.tl_nil ?_
              have HM : Hid (M (fun _ => False) w _ [blk w.heap.size (.cells (m.map bv).toArray 24), blk (w.heap.size + 1) (.cells hz0 28), rows 28 38 he lv7 (LF.take kk ++ LF.drop p), rows 24 32 eHi (.slice (some ⟨gi, 0, none⟩) ql ci) LF, rows 28 38 he v3 (TK ++ [x]), ids v4 (IdL.withL (IdL.setL (TK.map hiv)) (hiv x))]) := HM.out.sub _ [0, 1, 6, 3, 4, 5] (by decide) rfl
              generalize (if cl2 = p then (some ⟨gl, 0, none⟩ : Option Addr) else some ⟨gl, p * 38, none⟩) = z0
              go_wp2
              refine Txt.wp_region_text (fun _ => True) [3, 0, 0, 0, 4, 0, 0, 0, 0, 4, 0] (by kernel_rfl) (by kernel_rfl) trivial ?_
              have HM : Hid _ := HM.out.drew
              (repeat (first | (refine Txt.tl_pure (v := ?_) (by rfl) ?_ ?_; rotate_left; (focus (intro _; go_simp; try with_reducible rfl)); simp only [Act.put, List.setIfInBounds_toArray, List.set_cons_zero, List.set_cons_succ]) | (refine Txt.tl_load (v := ?_) (by rfl) (by rfl) (by rfl) (by kernel_rfl) ?_ ?_; rotate_left; (focus assumption); simp only [Act.put, List.setIfInBounds_toArray, List.set_cons_zero, List.set_cons_succ]) | (refine Txt.tl_loadS (v := ?_) (by rfl) (by rfl) (by rfl) (by kernel_rfl) ?_ ?_; rotate_left; (focus (exact fun _ h => h)); simp only [Act.put, List.setIfInBounds_toArray, List.set_cons_zero, List.set_cons_succ])))
              refine Txt.tl_alloc (by rfl) ?_
              refine St.wp_build0z slHi rfl ?_
              have HM : Hid _ := Mem.M.row0 HM.out (T := 24) encHi rfl
              refine ⟨⟨Txt.Le.alloc _ _, trivial⟩, ?_⟩
              simp only [Act.put, List.setIfInBounds_toArray, List.set_cons_zero, List.set_cons_succ]
              (repeat (first | (refine Txt.tl_pure (v := ?_) (by rfl) ?_ ?_; rotate_left; (focus (intro _; go_simp; try with_reducible rfl)); simp only [Act.put, List.setIfInBounds_toArray, List.set_cons_zero, List.set_cons_succ]) | (refine Txt.tl_load (v := ?_) (by rfl) (by rfl) (by rfl) (by kernel_rfl) ?_ ?_; rotate_left; (focus assumption); simp only [Act.put, List.setIfInBounds_toArray, List.set_cons_zero, List.set_cons_succ]) | (refine Txt.tl_loadS (v := ?_) (by rfl) (by rfl) (by rfl) (by kernel_rfl) ?_ ?_; rotate_left; (focus (exact fun _ h => h)); simp only [Act.put, List.setIfInBounds_toArray, List.set_cons_zero, List.set_cons_succ])))
              refine Txt.tl_loud (by rfl) ?_
              refine St.wp_appRz encHi slHi (by decide) rfl rfl (HM.out.get 6 rfl) rfl (Px.own_cut (HM.out.get 3 rfl) kk (by omega)) (by simp; omega) ?_
              intro v6 w6 h6 k6 g6
              have HM : Hid _ := HM.out.appR 6 rfl h6 k6 g6
              clear h6 k6 g6
              refine ⟨trivial, ?_⟩
              simp only [Act.put, List.setIfInBounds_toArray, List.set_cons_zero, List.set_cons_succ]
              (repeat (first | (refine Txt.tl_pure (v := ?_) (by rfl) ?_ ?_; rotate_left; (focus (intro _; go_simp; try with_reducible rfl)); simp only [Act.put, List.setIfInBounds_toArray, List.set_cons_zero, List.set_cons_succ]) | (refine Txt.tl_load (v := ?_) (by rfl) (by rfl) (by rfl) (by kernel_rfl) ?_ ?_; rotate_left; (focus assumption); simp only [Act.put, List.setIfInBounds_toArray, List.set_cons_zero, List.set_cons_succ]) | (refine Txt.tl_loadS (v := ?_) (by rfl) (by rfl) (by rfl) (by kernel_rfl) ?_ ?_; rotate_left; (focus (exact fun _ h => h)); simp only [Act.put, List.setIfInBounds_toArray, List.set_cons_zero, List.set_cons_succ])))
              refine Txt.tl_loud (by rfl) ?_
              refine St.wp_appRz encHi slHi (by decide) rfl rfl (HM.out.get 6 rfl) rfl (Px.own_tl (HM.out.get 3 rfl) p (by omega) (by omega)) (by simp; omega) ?_
              intro iv7 w7 h7 k7 g7
              have HM : Hid _ := HM.out.appR 6 rfl h7 k7 g7
              rw [List.nil_append] at HM
              clear h7 k7 g7
              refine ⟨trivial, ?_⟩
              simp only [Act.put, List.setIfInBounds_toArray, List.set_cons_zero, List.set_cons_succ]
              (repeat (first | (refine Txt.tl_pure (v := ?_) (by rfl) ?_ ?_; rotate_left; (focus (intro _; go_simp; try with_reducible rfl)); simp only [Act.put, List.setIfInBounds_toArray, List.set_cons_zero, List.set_cons_succ]) | (refine Txt.tl_load (v := ?_) (by rfl) (by rfl) (by rfl) (by kernel_rfl) ?_ ?_; rotate_left; (focus assumption); simp only [Act.put, List.setIfInBounds_toArray, List.set_cons_zero, List.set_cons_succ]) | (refine Txt.tl_loadS (v := ?_) (by rfl) (by rfl) (by rfl) (by kernel_rfl) ?_ ?_; rotate_left; (focus (exact fun _ h => h)); simp only [Act.put, List.setIfInBounds_toArray, List.set_cons_zero, List.set_cons_succ])))
              refine Txt.tl_nil ?_
              have HM : Hid (M (fun _ => False) w _ [blk w.heap.size (.cells (m.map bv).toArray 24), blk (w.heap.size + 1) (.cells hz0 28), rows 28 38 he lv7 (LF.take kk ++ LF.drop p), rows 24 32 eHi iv7 (LF.take kk ++ LF.drop p), rows 28 38 he v3 (TK ++ [x]), ids v4 (IdL.withL (IdL.setL (TK.map hiv)) (hiv x))]) := HM.out.sub _ [0, 1, 2, 6, 4, 5] (by decide) rfl
              generalize (if ci = p then (some ⟨gi, 0, none⟩ : Option Addr) else some ⟨gi, p * 32, none⟩) = z1
              go_wp2
              go_roundg (ql - 1)
              case rel =>
                have HM := HM.out
                rw [← HP.out, ← HSx.out] at HM
                exact ⟨TK ++ [x], LF.take kk ++ LF.drop (kk + 1), _, _, _, _, rfl, rfl, rfl, rfl, by have := HQL.out; simp; omega, by have := HQL.out; simp; omega, by have := HTN.out; simp; omega, HNx.out, HM⟩
              case measure => have := HLF.out; omega
        · have hdn : (srtD (K.map hkey)).take 4 = TK.map hkey := by
            refine HPk.out.done (by rw [List.length_map]; exact htk) ?_
            rcases Nat.lt_or_ge TK.length 4 with h | h
            · refine .inr ?_
              have : LF = [] := List.eq_nil_of_length_eq_zero (by omega)
              rw [this]; rfl
            · exact .inl (by rw [List.length_map]; exact h)
          have HSG0 : hgt TK = selG K := by unfold selG sel; rw [hdn, keys_hgt]
          have HSL0 : IdL.setL (TK.map hiv) = selL K := by unfold selL sel; rw [hdn, keys_ids]
          obtain ⟨sg, hsg⟩ : ∃ s, selG K = s := ⟨_, rfl⟩
          obtain ⟨sl, hsl⟩ : ∃ s, selL K = s := ⟨_, rfl⟩
          have Hsg : Hid (selG K = sg) := hsg
          have Hsl : Hid (selL K = sl) := hsl
          rw [hsg] at HSG0
          rw [hsl] at HSL0
          have HSG : Hid (hgt TK = sg) := HSG0
          have Hsn : Hid (sl.length ≤ 20) := by
            show _ ≤ _
            rw [← HSL0]
            refine Nat.le_trans (IdL.setL_len _) ?_
            rw [List.length_map]
            omega
          rw [HSL0] at HM
          obtain ⟨al2, cl2, e1, _⟩ := (show St.Own 28 38 he wr lv LF from HM.out.get 2 rfl).any
          obtain ⟨at_, ct, e3, _⟩ := (show St.Own 28 38 he wr tv TK from HM.out.get 4 rfl).any
          obtain ⟨ap, cp, e4, _⟩ := (show Own wr pv sl from HM.out.get 5 rfl).at
          subst e1 e3 e4
          obtain ⟨ql, hql⟩ : ∃ q, LF.length = q := ⟨_, rfl⟩
          obtain ⟨tn, htn⟩ : ∃ q, TK.length = q := ⟨_, rfl⟩
          rw [hql, htn] at HM
          rw [hql, htn] at hlt
          rw [htn] at htk
          rw [hql, htn]
          have Htn : Hid (tn ≤ 1000000) := by show _ ≤ _; omega
          clear hql htn hsg hsl HSG0 HSL0 hdn HPk HLF
          have hcs : 4 ≤ tn ∨ (tn < 4 ∧ ql = 0) := by omega
          clear hlt
          rcases hcs with h4 | ⟨h4, rfl⟩
          all_goals
            go_wp2
            refine Txt.region_to (fun a a' w' => ∃ b20 : Nat, a' = ((((((((((a.put (some 117) (.slice ap sl.length cp)).put (some 118) (.slice at_ tn ct)).put (some 119) (.int .i64 sg)).put (some 120) (.string T)).put (some 121) (.int .i64 A)).put (some 122) (.int .i64 Q)).put (some 123) (.int .i64 Z)).put (some 124) (idv m)).put (some 125) (.agg (hd (.slice ap sl.length cp) sg T A Q Z m).toArray)).put (some 23) (.pointer (some ⟨b20, 0, none⟩))) ∧ Hid (M (fun _ => False) w w' [blk w.heap.size (.cells (m.map bv).toArray 24), blk (w.heap.size + 1) (.cells hz0 28), ids (.slice ap sl.length cp) sl, blk b20 (.cells (hd (.slice ap sl.length cp) sg T A Q Z m).toArray 28)])) ?_ ?_
            · refine wp_region_any (by kernel_rfl) ?_
              change wpAny _ _ _ _ _ _ _ (World.drew _)
              have HM : Hid _ := HM.out.drew
              refine wpAny_take (i := 0) (v := ?_) rfl (by kernel_rfl) (by kernel_rfl) (by kernel_rfl) (fun _ _ _ h => by cases h.1) (Or.inl ⟨by kernel_rfl, ?_⟩) ?_; rotate_left; (focus (intro w; go_simp; try with_reducible rfl)); simp only [Act.put, List.setIfInBounds_toArray, List.set_cons_zero, List.set_cons_succ]
              refine wpAny_take (i := 1) (v := ?_) rfl (by kernel_rfl) (by kernel_rfl) (by kernel_rfl) (fun _ _ _ h => by cases h.1) (Or.inl ⟨by kernel_rfl, ?_⟩) ?_; rotate_left; (focus (intro w; go_simp; try with_reducible rfl)); simp only [Act.put, List.setIfInBounds_toArray, List.set_cons_zero, List.set_cons_succ]
              refine wpAny_take (i := 3) (v := ?_) rfl (by kernel_rfl) (by kernel_rfl) (by kernel_rfl) (fun _ _ _ h => by cases h.1) (Or.inl ⟨by kernel_rfl, ?_⟩) ?_; rotate_left; (focus (intro w; go_simp; try with_reducible rfl)); simp only [Act.put, List.setIfInBounds_toArray, List.set_cons_zero, List.set_cons_succ]
              refine wpAny_take (i := 4) (v := ?_) rfl (by kernel_rfl) (by kernel_rfl) (by kernel_rfl) (fun _ _ _ h => by cases h.1) (Or.inl ⟨by kernel_rfl, ?_⟩) ?_; rotate_left; (focus (intro w; go_simp; try with_reducible rfl)); simp only [Act.put, List.setIfInBounds_toArray, List.set_cons_zero, List.set_cons_succ]
              refine wpAny_take (i := 5) (v := ?_) rfl (by kernel_rfl) (by kernel_rfl) (by kernel_rfl) (fun _ _ _ h => by cases h.1) (Or.inl ⟨by kernel_rfl, ?_⟩) ?_; rotate_left; (focus (intro w; go_simp; try with_reducible rfl)); simp only [Act.put, List.setIfInBounds_toArray, List.set_cons_zero, List.set_cons_succ]
              refine wpAny_take (i := 6) (v := ?_) rfl (by kernel_rfl) (by kernel_rfl) (by kernel_rfl) (fun _ _ _ h => by cases h.1) (Or.inl ⟨by kernel_rfl, ?_⟩) ?_; rotate_left; (focus (intro w; go_simp; try with_reducible rfl)); simp only [Act.put, List.setIfInBounds_toArray, List.set_cons_zero, List.set_cons_succ]
              refine Txt.anyw [2, 7, 9] rfl (by kernel_rfl) (by simp) (Txt.all3 ?_ ?_ ?_)
              · refine Txt.opw rfl (Txt.wanted_none rfl) ?_
                have hat4 := hat (show St.Own 28 38 he _ (.slice at_ tn ct) TK from HM.out.get 4 rfl); have hcl := xheight_any _ at_ tn ct TK hat4 Htn.out; rw [HSG.out] at hcl; refine Txt.wp_call Tryz.func34 (by kernel_rfl) (by kernel_rfl) rfl (vs := #[.slice at_ tn ct]) (by kernel_rfl) hcl ?_; clear hcl hat4; rintro e w8 hq8; obtain ⟨rfl, k8⟩ := calm_of hq8; have HM : Hid _ := HM.out.calm k8; clear k8 hq8; refine ⟨_, rfl, ?_⟩; simp only [Act.put, List.setIfInBounds_toArray, List.set_cons_zero, List.set_cons_succ]
                refine Txt.anyw [7, 9] rfl (by kernel_rfl) (by simp) (Txt.all2 ?_ ?_)
                · refine Txt.opw rfl (Txt.wanted_none rfl) ?_
                  refine Txt.wp_ldN (n := 32) (ty := 24) (b := w.heap.size) (i := 0) rfl (by kernel_rfl) (HM.out.range 0 rfl) (by kernel_rfl) (by rw [List.length_map]; exact Hm.out) ?_; simp only [Act.put, List.setIfInBounds_toArray, List.set_cons_zero, List.set_cons_succ]
                  refine wpAny_take (i := 8) (v := .agg (hd (.slice ap sl.length cp) sg T A Q Z m).toArray) rfl (by kernel_rfl) (by kernel_rfl) (by kernel_rfl) (fun _ _ _ h => by cases h.1) (Or.inl ⟨by kernel_rfl, Txt.ex_build rfl [(0, .slice ap sl.length cp), (1, .int .i64 sg), (2, .string T), (3, .int .i64 A), (4, .int .i64 Q), (5, .int .i64 Z), (6, idv m)] (by kernel_rfl) (fun w => run_bld w _ _ (built_hd ap sl.length cp sg T A Q Z m Hm.out))⟩) ?_; simp only [Act.put, List.setIfInBounds_toArray, List.set_cons_zero, List.set_cons_succ]
                  refine Txt.anyw [9] rfl (by kernel_rfl) (by simp) (Txt.all1 ?_)
                  refine Txt.opw rfl (Txt.wanted_none rfl) ?_
                  refine St.wp_alloc tyH rfl ?_; have HM : Hid _ := HM.out.alloc (.cells hz0 28) rfl; simp only [Act.put, List.setIfInBounds_toArray, List.set_cons_zero, List.set_cons_succ]
                  refine Txt.anyw [10] rfl (by kernel_rfl) (by simp) (Txt.all1 ?_)
                  refine Txt.opw rfl (Txt.wanted_none rfl) ?_
                  refine St.wp_store tyH rfl rfl (by kernel_rfl) (by kernel_rfl) (cs := (hd (.slice ap sl.length cp) sg T A Q Z m).toArray) (hd_sz' Hm.out) (hd_one _ _ _ _ _ _ _ _ _) (HM.out.get 6 rfl) rfl ?_; have HM : Hid _ := HM.out.setr 6 rfl (hd (.slice ap sl.length cp) sg T A Q Z m).toArray
                  refine wpAny_done (by kernel_rfl) ?_ _
                  refine ⟨rfl, ?_⟩
                  exact ⟨_, by kernel_rfl, HM.out.sub _ [0, 1, 5, 6] (by decide) rfl⟩
                · refine Txt.opw rfl (Txt.wanted_none rfl) ?_
                  refine St.wp_alloc tyH rfl ?_; have HM : Hid _ := HM.out.alloc (.cells hz0 28) rfl; simp only [Act.put, List.setIfInBounds_toArray, List.set_cons_zero, List.set_cons_succ]
                  refine Txt.anyw [7] rfl (by kernel_rfl) (by simp) (Txt.all1 ?_)
                  refine Txt.opw rfl (Txt.wanted_none rfl) ?_
                  refine Txt.wp_ldN (n := 32) (ty := 24) (b := w.heap.size) (i := 0) rfl (by kernel_rfl) (HM.out.range 0 rfl) (by kernel_rfl) (by rw [List.length_map]; exact Hm.out) ?_; simp only [Act.put, List.setIfInBounds_toArray, List.set_cons_zero, List.set_cons_succ]
                  refine wpAny_take (i := 8) (v := .agg (hd (.slice ap sl.length cp) sg T A Q Z m).toArray) rfl (by kernel_rfl) (by kernel_rfl) (by kernel_rfl) (fun _ _ _ h => by cases h.1) (Or.inl ⟨by kernel_rfl, Txt.ex_build rfl [(0, .slice ap sl.length cp), (1, .int .i64 sg), (2, .string T), (3, .int .i64 A), (4, .int .i64 Q), (5, .int .i64 Z), (6, idv m)] (by kernel_rfl) (fun w => run_bld w _ _ (built_hd ap sl.length cp sg T A Q Z m Hm.out))⟩) ?_; simp only [Act.put, List.setIfInBounds_toArray, List.set_cons_zero, List.set_cons_succ]
                  refine Txt.anyw [10] rfl (by kernel_rfl) (by simp) (Txt.all1 ?_)
                  refine Txt.opw rfl (Txt.wanted_none rfl) ?_
                  refine St.wp_store tyH rfl rfl (by kernel_rfl) (by kernel_rfl) (cs := (hd (.slice ap sl.length cp) sg T A Q Z m).toArray) (hd_sz' Hm.out) (hd_one _ _ _ _ _ _ _ _ _) (HM.out.get 6 rfl) rfl ?_; have HM : Hid _ := HM.out.setr 6 rfl (hd (.slice ap sl.length cp) sg T A Q Z m).toArray
                  refine wpAny_done (by kernel_rfl) ?_ _
                  refine ⟨rfl, ?_⟩
                  exact ⟨_, by kernel_rfl, HM.out.sub _ [0, 1, 5, 6] (by decide) rfl⟩
              · refine Txt.opw rfl (Txt.wanted_none rfl) ?_
                refine Txt.wp_ldN (n := 32) (ty := 24) (b := w.heap.size) (i := 0) rfl (by kernel_rfl) (HM.out.range 0 rfl) (by kernel_rfl) (by rw [List.length_map]; exact Hm.out) ?_; simp only [Act.put, List.setIfInBounds_toArray, List.set_cons_zero, List.set_cons_succ]
                refine Txt.anyw [2, 9] rfl (by kernel_rfl) (by simp) (Txt.all2 ?_ ?_)
                · refine Txt.opw rfl (Txt.wanted_none rfl) ?_
                  have hat4 := hat (show St.Own 28 38 he _ (.slice at_ tn ct) TK from HM.out.get 4 rfl); have hcl := xheight_any _ at_ tn ct TK hat4 Htn.out; rw [HSG.out] at hcl; refine Txt.wp_call Tryz.func34 (by kernel_rfl) (by kernel_rfl) rfl (vs := #[.slice at_ tn ct]) (by kernel_rfl) hcl ?_; clear hcl hat4; rintro e w8 hq8; obtain ⟨rfl, k8⟩ := calm_of hq8; have HM : Hid _ := HM.out.calm k8; clear k8 hq8; refine ⟨_, rfl, ?_⟩; simp only [Act.put, List.setIfInBounds_toArray, List.set_cons_zero, List.set_cons_succ]
                  refine wpAny_take (i := 8) (v := .agg (hd (.slice ap sl.length cp) sg T A Q Z m).toArray) rfl (by kernel_rfl) (by kernel_rfl) (by kernel_rfl) (fun _ _ _ h => by cases h.1) (Or.inl ⟨by kernel_rfl, Txt.ex_build rfl [(0, .slice ap sl.length cp), (1, .int .i64 sg), (2, .string T), (3, .int .i64 A), (4, .int .i64 Q), (5, .int .i64 Z), (6, idv m)] (by kernel_rfl) (fun w => run_bld w _ _ (built_hd ap sl.length cp sg T A Q Z m Hm.out))⟩) ?_; simp only [Act.put, List.setIfInBounds_toArray, List.set_cons_zero, List.set_cons_succ]
                  refine Txt.anyw [9] rfl (by kernel_rfl) (by simp) (Txt.all1 ?_)
                  refine Txt.opw rfl (Txt.wanted_none rfl) ?_
                  refine St.wp_alloc tyH rfl ?_; have HM : Hid _ := HM.out.alloc (.cells hz0 28) rfl; simp only [Act.put, List.setIfInBounds_toArray, List.set_cons_zero, List.set_cons_succ]
                  refine Txt.anyw [10] rfl (by kernel_rfl) (by simp) (Txt.all1 ?_)
                  refine Txt.opw rfl (Txt.wanted_none rfl) ?_
                  refine St.wp_store tyH rfl rfl (by kernel_rfl) (by kernel_rfl) (cs := (hd (.slice ap sl.length cp) sg T A Q Z m).toArray) (hd_sz' Hm.out) (hd_one _ _ _ _ _ _ _ _ _) (HM.out.get 6 rfl) rfl ?_; have HM : Hid _ := HM.out.setr 6 rfl (hd (.slice ap sl.length cp) sg T A Q Z m).toArray
                  refine wpAny_done (by kernel_rfl) ?_ _
                  refine ⟨rfl, ?_⟩
                  exact ⟨_, by kernel_rfl, HM.out.sub _ [0, 1, 5, 6] (by decide) rfl⟩
                · refine Txt.opw rfl (Txt.wanted_none rfl) ?_
                  refine St.wp_alloc tyH rfl ?_; have HM : Hid _ := HM.out.alloc (.cells hz0 28) rfl; simp only [Act.put, List.setIfInBounds_toArray, List.set_cons_zero, List.set_cons_succ]
                  refine Txt.anyw [2] rfl (by kernel_rfl) (by simp) (Txt.all1 ?_)
                  refine Txt.opw rfl (Txt.wanted_none rfl) ?_
                  have hat4 := hat (show St.Own 28 38 he _ (.slice at_ tn ct) TK from HM.out.get 4 rfl); have hcl := xheight_any _ at_ tn ct TK hat4 Htn.out; rw [HSG.out] at hcl; refine Txt.wp_call Tryz.func34 (by kernel_rfl) (by kernel_rfl) rfl (vs := #[.slice at_ tn ct]) (by kernel_rfl) hcl ?_; clear hcl hat4; rintro e w8 hq8; obtain ⟨rfl, k8⟩ := calm_of hq8; have HM : Hid _ := HM.out.calm k8; clear k8 hq8; refine ⟨_, rfl, ?_⟩; simp only [Act.put, List.setIfInBounds_toArray, List.set_cons_zero, List.set_cons_succ]
                  refine wpAny_take (i := 8) (v := .agg (hd (.slice ap sl.length cp) sg T A Q Z m).toArray) rfl (by kernel_rfl) (by kernel_rfl) (by kernel_rfl) (fun _ _ _ h => by cases h.1) (Or.inl ⟨by kernel_rfl, Txt.ex_build rfl [(0, .slice ap sl.length cp), (1, .int .i64 sg), (2, .string T), (3, .int .i64 A), (4, .int .i64 Q), (5, .int .i64 Z), (6, idv m)] (by kernel_rfl) (fun w => run_bld w _ _ (built_hd ap sl.length cp sg T A Q Z m Hm.out))⟩) ?_; simp only [Act.put, List.setIfInBounds_toArray, List.set_cons_zero, List.set_cons_succ]
                  refine Txt.anyw [10] rfl (by kernel_rfl) (by simp) (Txt.all1 ?_)
                  refine Txt.opw rfl (Txt.wanted_none rfl) ?_
                  refine St.wp_store tyH rfl rfl (by kernel_rfl) (by kernel_rfl) (cs := (hd (.slice ap sl.length cp) sg T A Q Z m).toArray) (hd_sz' Hm.out) (hd_one _ _ _ _ _ _ _ _ _) (HM.out.get 6 rfl) rfl ?_; have HM : Hid _ := HM.out.setr 6 rfl (hd (.slice ap sl.length cp) sg T A Q Z m).toArray
                  refine wpAny_done (by kernel_rfl) ?_ _
                  refine ⟨rfl, ?_⟩
                  exact ⟨_, by kernel_rfl, HM.out.sub _ [0, 1, 5, 6] (by decide) rfl⟩
              · refine Txt.opw rfl (Txt.wanted_none rfl) ?_
                refine St.wp_alloc tyH rfl ?_; have HM : Hid _ := HM.out.alloc (.cells hz0 28) rfl; simp only [Act.put, List.setIfInBounds_toArray, List.set_cons_zero, List.set_cons_succ]
                refine Txt.anyw [2, 7] rfl (by kernel_rfl) (by simp) (Txt.all2 ?_ ?_)
                · refine Txt.opw rfl (Txt.wanted_none rfl) ?_
                  have hat4 := hat (show St.Own 28 38 he _ (.slice at_ tn ct) TK from HM.out.get 4 rfl); have hcl := xheight_any _ at_ tn ct TK hat4 Htn.out; rw [HSG.out] at hcl; refine Txt.wp_call Tryz.func34 (by kernel_rfl) (by kernel_rfl) rfl (vs := #[.slice at_ tn ct]) (by kernel_rfl) hcl ?_; clear hcl hat4; rintro e w8 hq8; obtain ⟨rfl, k8⟩ := calm_of hq8; have HM : Hid _ := HM.out.calm k8; clear k8 hq8; refine ⟨_, rfl, ?_⟩; simp only [Act.put, List.setIfInBounds_toArray, List.set_cons_zero, List.set_cons_succ]
                  refine Txt.anyw [7] rfl (by kernel_rfl) (by simp) (Txt.all1 ?_)
                  refine Txt.opw rfl (Txt.wanted_none rfl) ?_
                  refine Txt.wp_ldN (n := 32) (ty := 24) (b := w.heap.size) (i := 0) rfl (by kernel_rfl) (HM.out.range 0 rfl) (by kernel_rfl) (by rw [List.length_map]; exact Hm.out) ?_; simp only [Act.put, List.setIfInBounds_toArray, List.set_cons_zero, List.set_cons_succ]
                  refine wpAny_take (i := 8) (v := .agg (hd (.slice ap sl.length cp) sg T A Q Z m).toArray) rfl (by kernel_rfl) (by kernel_rfl) (by kernel_rfl) (fun _ _ _ h => by cases h.1) (Or.inl ⟨by kernel_rfl, Txt.ex_build rfl [(0, .slice ap sl.length cp), (1, .int .i64 sg), (2, .string T), (3, .int .i64 A), (4, .int .i64 Q), (5, .int .i64 Z), (6, idv m)] (by kernel_rfl) (fun w => run_bld w _ _ (built_hd ap sl.length cp sg T A Q Z m Hm.out))⟩) ?_; simp only [Act.put, List.setIfInBounds_toArray, List.set_cons_zero, List.set_cons_succ]
                  refine Txt.anyw [10] rfl (by kernel_rfl) (by simp) (Txt.all1 ?_)
                  refine Txt.opw rfl (Txt.wanted_none rfl) ?_
                  refine St.wp_store tyH rfl rfl (by kernel_rfl) (by kernel_rfl) (cs := (hd (.slice ap sl.length cp) sg T A Q Z m).toArray) (hd_sz' Hm.out) (hd_one _ _ _ _ _ _ _ _ _) (HM.out.get 6 rfl) rfl ?_; have HM : Hid _ := HM.out.setr 6 rfl (hd (.slice ap sl.length cp) sg T A Q Z m).toArray
                  refine wpAny_done (by kernel_rfl) ?_ _
                  refine ⟨rfl, ?_⟩
                  exact ⟨_, by kernel_rfl, HM.out.sub _ [0, 1, 5, 6] (by decide) rfl⟩
                · refine Txt.opw rfl (Txt.wanted_none rfl) ?_
                  refine Txt.wp_ldN (n := 32) (ty := 24) (b := w.heap.size) (i := 0) rfl (by kernel_rfl) (HM.out.range 0 rfl) (by kernel_rfl) (by rw [List.length_map]; exact Hm.out) ?_; simp only [Act.put, List.setIfInBounds_toArray, List.set_cons_zero, List.set_cons_succ]
                  refine Txt.anyw [2] rfl (by kernel_rfl) (by simp) (Txt.all1 ?_)
                  refine Txt.opw rfl (Txt.wanted_none rfl) ?_
                  have hat4 := hat (show St.Own 28 38 he _ (.slice at_ tn ct) TK from HM.out.get 4 rfl); have hcl := xheight_any _ at_ tn ct TK hat4 Htn.out; rw [HSG.out] at hcl; refine Txt.wp_call Tryz.func34 (by kernel_rfl) (by kernel_rfl) rfl (vs := #[.slice at_ tn ct]) (by kernel_rfl) hcl ?_; clear hcl hat4; rintro e w8 hq8; obtain ⟨rfl, k8⟩ := calm_of hq8; have HM : Hid _ := HM.out.calm k8; clear k8 hq8; refine ⟨_, rfl, ?_⟩; simp only [Act.put, List.setIfInBounds_toArray, List.set_cons_zero, List.set_cons_succ]
                  refine wpAny_take (i := 8) (v := .agg (hd (.slice ap sl.length cp) sg T A Q Z m).toArray) rfl (by kernel_rfl) (by kernel_rfl) (by kernel_rfl) (fun _ _ _ h => by cases h.1) (Or.inl ⟨by kernel_rfl, Txt.ex_build rfl [(0, .slice ap sl.length cp), (1, .int .i64 sg), (2, .string T), (3, .int .i64 A), (4, .int .i64 Q), (5, .int .i64 Z), (6, idv m)] (by kernel_rfl) (fun w => run_bld w _ _ (built_hd ap sl.length cp sg T A Q Z m Hm.out))⟩) ?_; simp only [Act.put, List.setIfInBounds_toArray, List.set_cons_zero, List.set_cons_succ]
                  refine Txt.anyw [10] rfl (by kernel_rfl) (by simp) (Txt.all1 ?_)
                  refine Txt.opw rfl (Txt.wanted_none rfl) ?_
                  refine St.wp_store tyH rfl rfl (by kernel_rfl) (by kernel_rfl) (cs := (hd (.slice ap sl.length cp) sg T A Q Z m).toArray) (hd_sz' Hm.out) (hd_one _ _ _ _ _ _ _ _ _) (HM.out.get 6 rfl) rfl ?_; have HM : Hid _ := HM.out.setr 6 rfl (hd (.slice ap sl.length cp) sg T A Q Z m).toArray
                  refine wpAny_done (by kernel_rfl) ?_ _
                  refine ⟨rfl, ?_⟩
                  exact ⟨_, by kernel_rfl, HM.out.sub _ [0, 1, 5, 6] (by decide) rfl⟩
            rintro a' w' ⟨b20, rfl, hM⟩
            have HM : Hid _ := hM.out
            clear hM
            simp only [Act.put, List.setIfInBounds_toArray, List.set_cons_zero, List.set_cons_succ]
            obtain ⟨v, hv⟩ : ∃ v, ck sl.length sl sg T A Q Z = v := ⟨_, rfl⟩
            have Hv : Hid (ck sl.length sl sg T A Q Z = v) := hv
            have HC2 : Hid (∀ w', At w' ap sl.length sl → Calls Tryz.prog 35 #[.agg (hd (.slice ap sl.length cp) sg T A Q Z m).toArray] w' fun e w'' => e = .returned (.int .i64 v) ∧ Keep (fun _ => False) w' w'') := fun w' h => by rw [← hv]; exact HCk.out w' sl.length ap cp sl sg h (by have := Hsn.out; omega)
            clear hv
            by_cases h0 : v = 0
            · subst h0
              go_wp2_with (first | ((with_reducible refine at_load 28 ?_); refine St.wl_load tyH (by rfl) rfl rfl (HM.out.range 3 rfl) (hd_len _ _ _ _ _ _ _ Hm.out) ?_; simp only [Act.put, List.setIfInBounds_toArray, List.set_cons_zero, List.set_cons_succ]) | (go_at_call 35; refine (HC2.out _ (iat (HM.out.get 2 rfl))).mono ?_; rintro e w9 ⟨rfl, k9⟩; have HM : Hid _ := HM.out.calm k9; clear k9) | (refine St.wl_store tyH rfl rfl rfl rfl rfl (cs := (hd (.slice ap sl.length cp) sg T A Q Z m).toArray) (hd_sz' Hm.out) (hd_one _ _ _ _ _ _ _ _ _) (HM.out.get 1 rfl) rfl ?_; have HM : Hid _ := HM.out.setr 1 rfl (hd (.slice ap sl.length cp) sg T A Q Z m).toArray))
              refine bodyPost_ret (St.res2 tyH rfl _ _ _ (hd (.slice ap sl.length cp) sg T A Q Z m).toArray (hd_sz' Hm.out) rfl (HM.out.get 1 rfl) _ rfl) rfl ?_
              refine .inr ⟨HBd.out, .inr ?_⟩
              rw [Hsg.out, Hsl.out]
              exact ⟨Hv.out, ap, cp, rfl, newOf HM.out 2 rfl⟩
            · have h1 : (v != 0) = true := by simpa using h0
              have H0 : Hid (v ≠ 0) := h0
              clear h0
              go_wp2_with (first | ((with_reducible refine at_load 28 ?_); refine St.wl_load tyH (by rfl) rfl rfl (HM.out.range 3 rfl) (hd_len _ _ _ _ _ _ _ Hm.out) ?_; simp only [Act.put, List.setIfInBounds_toArray, List.set_cons_zero, List.set_cons_succ]) | (go_at_call 35; refine (HC2.out _ (iat (HM.out.get 2 rfl))).mono ?_; rintro e w9 ⟨rfl, k9⟩; have HM : Hid _ := HM.out.calm k9; clear k9) | (refine St.wl_buildV (T := 28) (parts := #[]) rfl rfl (cs := hz0) (by kernel_rfl) ?_; simp only [Act.put, List.setIfInBounds_toArray, List.set_cons_zero, List.set_cons_succ]) | (refine St.wl_store tyH rfl rfl rfl rfl rfl (cs := hz0) rfl (hd_one _ _ _ _ _ _ _ _ _) (HM.out.get 1 rfl) rfl ?_; have HM : Hid _ := HM.out.setr 1 rfl hz0))
              refine bodyPost_ret (St.res2 tyH rfl _ _ _ hz0 rfl rfl (HM.out.get 1 rfl) _ rfl) rfl ?_
              refine .inr ⟨HBd.out, .inl ?_⟩
              rw [Hsg.out, Hsl.out, Hv.out]
              exact ⟨H0.out, rfl, HM.out.keep⟩
end Nx
end Go.Proofs.YtgllkfolckbdhaaGreatDoor
