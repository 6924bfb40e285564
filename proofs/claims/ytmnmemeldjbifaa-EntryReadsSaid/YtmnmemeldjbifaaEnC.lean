/-
  entry.All, petrelref14.All, petrelref14.Same.
-/
import Derived.Test.YtmnmemeldjbifaaEnE
import Derived.Test.YtmnmemeldjbifaaRows2
set_option linter.unusedVariables false
set_option linter.unusedSimpArgs false
namespace Go.Proofs.Ytmnmemeldjbifaa
open Go.RowKit
namespace En
open Oct Ids
open Mem (M blk byt rd xr rows)

/-- A row of texts, in memory. -/
structure TAt (w : World) (a : Option Addr) (k : Nat) (els : List ByteArray) : Prop where
  len : els.length = k
  size : ∀ x ∈ els, x.size ≤ maxLen
  most : k ≤ maxLen
  lay : k = 0 ∨ ∃ b off, a = some ⟨b, off, none⟩ ∧ b < w.heap.size ∧ ∀ i x, els[i]? = some x → w.cell? ⟨b, off + i, none⟩ = some (.string x)
theorem TAt.calm {w w' : World} {a : Option Addr} {k : Nat} {els : List ByteArray} (h : TAt w a k els) (hk : Keep (fun _ => False) w w') : TAt w' a k els := by
  refine ⟨h.len, h.size, h.most, h.lay.imp id ?_⟩
  rintro ⟨b, off, ha, hb, hr⟩
  exact ⟨b, off, ha, Nat.lt_of_lt_of_le hb hk.size, fun i x hi => (hk.cell (p := ⟨b, off + i, none⟩) hb (fun h => h)).trans (hr i x hi)⟩
/-- An entry, as one thing. -/
abbrev E4 := Int × ByteArray × ByteArray × List UInt8
def enc4 (x : E4) : List Value := ec x.1 x.2.1 x.2.2.1 x.2.2.2
def oe4 (s : ByteArray) : E4 := ((ofe s).K, (ofe s).T, (ofe s).B, (ofe s).c)
theorem ofe_len (s : ByteArray) : (ofe s).c.length = 32 := by
  by_cases h : (ofe s).e = 0
  · exact (Classical.byContradiction fun hn => by
      obtain ⟨o, ho⟩ : ∃ o, ofe s = o := ⟨_, rfl⟩
      rw [ho] at hn
      unfold ofe at ho
      simp only at ho
      repeat' split at ho
      all_goals
        subst ho
        first
          | exact hn rfl
          | exact hn (rdC_len _ _ _ _))
  · obtain ⟨o, ho⟩ : ∃ o, ofe s = o := ⟨_, rfl⟩
    rw [ho] at h ⊢
    unfold ofe at ho
    simp only at ho
    repeat' split at ho
    all_goals
      subst ho
      first
        | rfl
        | exact absurd rfl h
/-- What 'All' makes of texts: entries, how many, the first error. -/
def allv : List ByteArray → List E4 × Nat × Int
  | [] => ([], 0, 0)
  | s :: l => if (ofe s).e ≠ 0 then ([], 0, (ofe s).e) else (oe4 s :: (allv l).1, (allv l).2.1 + 1, (allv l).2.2)
/-- .. of the first k, none of which is an error. -/
def okTo (l : List ByteArray) (k : Nat) : Prop := ∀ i s, i < k → l[i]? = some s → (ofe s).e = 0
theorem allv_at : ∀ (l : List ByteArray) (k : Nat) (s : ByteArray), l[k]? = some s → okTo l k → (ofe s).e ≠ 0 → allv l = ((l.take k).map oe4, k, (ofe s).e)
  | [], k, s, h, _, _ => by simp at h
  | x :: l, 0, s, h, _, he => by
    simp only [List.getElem?_cons_zero, Option.some.injEq] at h
    subst h
    unfold allv
    rw [if_pos he]
    rfl
  | x :: l, k + 1, s, h, ho, he => by
    have h0 := ho 0 x (by omega) rfl
    have ih := allv_at l k s (by simpa using h) (fun i y hi hy => ho (i + 1) y (by omega) (by simpa using hy)) he
    unfold allv
    rw [if_neg (by simp [h0]), ih]
    rfl
theorem allv_end : ∀ (l : List ByteArray), okTo l l.length → allv l = (l.map oe4, l.length, 0)
  | [], _ => rfl
  | x :: l, ho => by
    have h0 := ho 0 x (by simp) rfl
    have ih := allv_end l (fun i y hi hy => ho (i + 1) y (by simpa using hi) (by simpa using hy))
    unfold allv
    rw [if_neg (by simp [h0]), ih]
    rfl
theorem slE : SlT Try.prog 61 43 (.agg (ec 0 ByteArray.empty ByteArray.empty Z32).toArray) 35 72 := SlT.mk' Try.underlying61 (by kernel_rfl) rfl (by omega)
set_option maxRecDepth 100000 in
set_option maxHeartbeats 2000000 in
theorem all_any (w : World) (a : Option Addr) (k c : Nat) (l : List ByteArray) (h : TAt w a k l) (hk : k ≤ 1000) :
    Calls Try.prog 29 #[.slice a k c] w fun e w' => ∃ v, e = .returned (.tuple #[v, .int .i64 (allv l).2.1, .int .i64 (allv l).2.2]) ∧ St.Own 43 35 enc4 w' v (allv l).1 ∧ Keep (fun _ => False) w w' := by
  have H : Hid _ := h
  have hkl := h.len
  have HL : Hid _ := hkl
  have M0 : Hid (M (fun _ => False) w w [rows 43 35 enc4 (.slice none 0 0) []]) := (M.start (fun _ => False) w).nilR _ _ _
  clear h hkl
  go_enter Try.func29, Try.ntmps29
  go_wp2
  go_loopw [5, 11] (fun o i wr => ∃ (j : Nat) (v : Value), j ≤ k ∧ i = .int .i64 j ∧ o = v ∧ okTo l j ∧ M (fun _ => False) w wr [rows 43 35 enc4 v ((l.take j).map oe4)]) (fun _ i _ => k - (intOf i).toNat)
  case atStart => exact ⟨0, _, Nat.zero_le _, rfl, rfl, fun i s hi _ => by omega, M0.out⟩
  case round =>
    obtain ⟨j, v, hj, rfl, hv, hok, hM⟩ := hrel
    replace hv := hv.symm
    subst hv
    have HM : Hid _ := hM
    have HO : Hid _ := hok
    clear hM hok
    by_cases hlt : j < k
    · obtain ⟨s, hs⟩ : ∃ s, l[j]? = some s := ⟨_, List.getElem?_eq_getElem (by rw [HL.out]; exact hlt)⟩
      obtain ⟨b, off, rfl, hb, hr⟩ : ∃ b off, a = some ⟨b, off, none⟩ ∧ b < w.heap.size ∧ ∀ i x, l[i]? = some x → w.cell? ⟨b, off + i, none⟩ = some (.string x) := by rcases H.out.lay with e | e; omega; exact e
      have g4 : wr.cell? ⟨b, off + j, none⟩ = some (.string s) := (HM.out.keep.cell (p := ⟨b, off + j, none⟩) hb (fun h => h)).trans (hr j s hs)
      have Ho : Hid (∀ w, _) := fun w => ofE_any w s (H.out.size s (List.mem_of_getElem? hs))
      have Hl : Hid _ := ofe_len s
      have Hs : Hid _ := hs
      have hjl : ((l.take j).map oe4).length ≤ 1000000 := by rw [List.length_map, List.length_take]; omega
      clear hr hs hb
      by_cases he : (ofe s).e = 0
      · have HE : Hid _ := he
        unfold ev at Ho
        rw [he] at Ho
        clear he
        go_wp2_with (first | (go_at_call 25; refine (Ho.out _).mono ?_; rintro e w1 ⟨rfl, k1⟩; have HM : Hid _ := HM.out.calm k1; clear k1) | (refine St.wl_alloc stE rfl rfl (by (try simp only [World.size_alloc]); rfl) ?_; simp only [Act.put, List.setIfInBounds_toArray, List.set_cons_zero, List.set_cons_succ]) | (refine St.wl_storeN stE rfl rfl rfl rfl rfl (by (try simp only [World.size_alloc])) (show _ = Value.agg (enc4 (oe4 s)).toArray from rfl) (ec_sz Hl.out) (ec_sz rfl) (ec_one _ _ _ _) ?_; have HM : Hid _ := HM.out.alloc (.cells (enc4 (oe4 s)).toArray 43) rfl) | (refine St.wl_load stE (by rfl) rfl rfl (HM.out.range 1 rfl) (ec_len _ _ _ _ Hl.out) ?_; simp only [Act.put, List.setIfInBounds_toArray, List.set_cons_zero, List.set_cons_succ]) | (refine St.wl_build slE (by omega) rfl rfl (cs := enc4 (oe4 s)) (ec_len _ _ _ _ Hl.out) rfl ?_; simp only [Act.put, List.setIfInBounds_toArray, List.set_cons_zero, List.set_cons_succ]) | (refine St.wl_app1 slE (by omega) rfl rfl rfl ((HM.out.alloc (.cells (enc4 (oe4 s)).toArray 43) rfl).get 0 rfl) rfl (y := oe4 s) (ec_len _ _ _ _ Hl.out) (ec_one _ _ _ _) (heap_alloc_new _ _) hjl ?_; intro v' w4 h1 k1 h3; have HM : Hid _ := (HM.out.alloc (.cells (enc4 (oe4 s)).toArray 43) rfl).appR 0 rfl h1 k1 h3; clear h1 k1 h3; simp only [Act.put, List.setIfInBounds_toArray, List.set_cons_zero, List.set_cons_succ]))
        go_roundw
        case rel =>
          refine ⟨j + 1, v', by omega, rfl, rfl, fun i y hi hy => ?_, ?_⟩
          · by_cases e : i = j
            · subst e
              rw [Hs.out] at hy
              rw [← Option.some.inj hy]; exact HE.out
            · exact HO.out i y (by omega) hy
          · rw [List.take_add_one, Hs.out, List.map_append]
            exact HM.out.take 1
        case measure => simp [intOf]; omega
      · have hal := allv_at l j s Hs.out HO.out he
        have he2 : ((ofe s).e != 0) = true := by simpa using he
        have HA : Hid _ := hal
        clear he hal
        go_wp2_with (first | (go_at_call 25; refine (Ho.out _).mono ?_; rintro e w1 ⟨rfl, k1⟩; have HM : Hid _ := HM.out.calm k1; clear k1) | (refine St.wl_alloc stE rfl rfl (by (try simp only [World.size_alloc]); rfl) ?_; simp only [Act.put, List.setIfInBounds_toArray, List.set_cons_zero, List.set_cons_succ]) | (refine St.wl_storeN stE rfl rfl rfl rfl rfl (by (try simp only [World.size_alloc])) (show _ = Value.agg (enc4 (oe4 s)).toArray from rfl) (ec_sz Hl.out) (ec_sz rfl) (ec_one _ _ _ _) ?_; have HM : Hid _ := HM.out.alloc (.cells (enc4 (oe4 s)).toArray 43) rfl))
        refine bodyPost_ret (St.results_tmp3 rfl _ _ _ _ _ rfl rfl rfl) rfl ?_
        rw [HA.out]
        exact ⟨_, rfl, HM.out.get 0 rfl, HM.out.keep⟩
    · obtain rfl : j = k := by omega
      have hal := allv_end l (by rw [HL.out]; exact HO.out)
      have HA : Hid _ := hal
      clear hal
      go_wp2
      refine bodyPost_ret (St.results_tmp3 rfl _ _ _ _ _ rfl rfl rfl) rfl ?_
      rw [HA.out]
      have := HM.out.get 0 rfl
      rw [List.take_of_length_le (by rw [HL.out]; exact Nat.le_refl _)] at this
      exact ⟨_, by simp only [HL.out]; rfl, this, HM.out.keep⟩
set_option maxRecDepth 100000 in
set_option maxHeartbeats 2000000 in
theorem rall_any (w : World) (a : Option Addr) (k c : Nat) (l : List ByteArray) (h : TAt w a k l) (hk : k ≤ 1000) :
    Calls Try.prog 30 #[.slice a k c] w fun e w' => ∃ v, e = .returned (.tuple #[v, .int .i64 (allv l).2.1, .int .i64 (allv l).2.2]) ∧ St.Own 43 35 enc4 w' v (allv l).1 ∧ Keep (fun _ => False) w w' := by
  have H : Hid _ := h
  have hkl := h.len
  have HL : Hid _ := hkl
  have M0 : Hid (M (fun _ => False) w w [rows 43 35 enc4 (.slice none 0 0) []]) := (M.start (fun _ => False) w).nilR _ _ _
  clear h hkl
  go_enter Try.func30, Try.ntmps30
  go_wp2
  go_loopw [5, 6] (fun o i wr => ∃ (j : Nat) (v : Value), j ≤ k ∧ i = .int .i64 j ∧ o = v ∧ okTo l j ∧ M (fun _ => False) w wr [rows 43 35 enc4 v ((l.take j).map oe4)]) (fun _ i _ => k - (intOf i).toNat)
  case atStart => exact ⟨0, _, Nat.zero_le _, rfl, rfl, fun i s hi _ => by omega, M0.out⟩
  case round =>
    obtain ⟨j, v, hj, rfl, hv, hok, hM⟩ := hrel
    replace hv := hv.symm
    subst hv
    have HM : Hid _ := hM
    have HO : Hid _ := hok
    clear hM hok
    by_cases hlt : j < k
    · obtain ⟨s, hs⟩ : ∃ s, l[j]? = some s := ⟨_, List.getElem?_eq_getElem (by rw [HL.out]; exact hlt)⟩
      obtain ⟨b, off, rfl, hb, hr⟩ : ∃ b off, a = some ⟨b, off, none⟩ ∧ b < w.heap.size ∧ ∀ i x, l[i]? = some x → w.cell? ⟨b, off + i, none⟩ = some (.string x) := by rcases H.out.lay with e | e; omega; exact e
      have g4 : wr.cell? ⟨b, off + j, none⟩ = some (.string s) := (HM.out.keep.cell (p := ⟨b, off + j, none⟩) hb (fun h => h)).trans (hr j s hs)
      have Ho : Hid (∀ w, _) := fun w => rofE_any w s (H.out.size s (List.mem_of_getElem? hs))
      have Hl : Hid _ := ofe_len s
      have Hs : Hid _ := hs
      have hjl : ((l.take j).map oe4).length ≤ 1000000 := by rw [List.length_map, List.length_take]; omega
      clear hr hs hb
      by_cases he : (ofe s).e = 0
      · have HE : Hid _ := he
        unfold ev at Ho
        rw [he] at Ho
        clear he
        go_wp2_with (first | (go_at_call 28; refine (Ho.out _).mono ?_; rintro e w1 ⟨rfl, k1⟩; have HM : Hid _ := HM.out.calm k1; clear k1) | (refine St.wl_alloc stE rfl rfl (by (try simp only [World.size_alloc]); rfl) ?_; simp only [Act.put, List.setIfInBounds_toArray, List.set_cons_zero, List.set_cons_succ]) | (refine St.wl_storeN stE rfl rfl rfl rfl rfl (by (try simp only [World.size_alloc])) (show _ = Value.agg (enc4 (oe4 s)).toArray from rfl) (ec_sz Hl.out) (ec_sz rfl) (ec_one _ _ _ _) ?_; have HM : Hid _ := HM.out.alloc (.cells (enc4 (oe4 s)).toArray 43) rfl) | (refine St.wl_load stE (by rfl) rfl rfl (HM.out.range 1 rfl) (ec_len _ _ _ _ Hl.out) ?_; simp only [Act.put, List.setIfInBounds_toArray, List.set_cons_zero, List.set_cons_succ]) | (refine St.wl_build slE (by omega) rfl rfl (cs := enc4 (oe4 s)) (ec_len _ _ _ _ Hl.out) rfl ?_; simp only [Act.put, List.setIfInBounds_toArray, List.set_cons_zero, List.set_cons_succ]) | (refine St.wl_app1 slE (by omega) rfl rfl rfl ((HM.out.alloc (.cells (enc4 (oe4 s)).toArray 43) rfl).get 0 rfl) rfl (y := oe4 s) (ec_len _ _ _ _ Hl.out) (ec_one _ _ _ _) (heap_alloc_new _ _) hjl ?_; intro v' w4 h1 k1 h3; have HM : Hid _ := (HM.out.alloc (.cells (enc4 (oe4 s)).toArray 43) rfl).appR 0 rfl h1 k1 h3; clear h1 k1 h3; simp only [Act.put, List.setIfInBounds_toArray, List.set_cons_zero, List.set_cons_succ]))
        go_roundw
        case rel =>
          refine ⟨j + 1, v', by omega, rfl, rfl, fun i y hi hy => ?_, ?_⟩
          · by_cases e : i = j
            · subst e
              rw [Hs.out] at hy
              rw [← Option.some.inj hy]; exact HE.out
            · exact HO.out i y (by omega) hy
          · rw [List.take_add_one, Hs.out, List.map_append]
            exact HM.out.take 1
        case measure => simp [intOf]; omega
      · have hal := allv_at l j s Hs.out HO.out he
        have he2 : ((ofe s).e != 0) = true := by simpa using he
        have HA : Hid _ := hal
        clear he hal
        go_wp2_with (first | (go_at_call 28; refine (Ho.out _).mono ?_; rintro e w1 ⟨rfl, k1⟩; have HM : Hid _ := HM.out.calm k1; clear k1) | (refine St.wl_alloc stE rfl rfl (by (try simp only [World.size_alloc]); rfl) ?_; simp only [Act.put, List.setIfInBounds_toArray, List.set_cons_zero, List.set_cons_succ]) | (refine St.wl_storeN stE rfl rfl rfl rfl rfl (by (try simp only [World.size_alloc])) (show _ = Value.agg (enc4 (oe4 s)).toArray from rfl) (ec_sz Hl.out) (ec_sz rfl) (ec_one _ _ _ _) ?_; have HM : Hid _ := HM.out.alloc (.cells (enc4 (oe4 s)).toArray 43) rfl))
        refine bodyPost_ret (St.results_tmp3 rfl _ _ _ _ _ rfl rfl rfl) rfl ?_
        rw [HA.out]
        exact ⟨_, rfl, HM.out.get 0 rfl, HM.out.keep⟩
    · obtain rfl : j = k := by omega
      have hal := allv_end l (by rw [HL.out]; exact HO.out)
      have HA : Hid _ := hal
      clear hal
      go_wp2
      refine bodyPost_ret (St.results_tmp3 rfl _ _ _ _ _ rfl rfl rfl) rfl ?_
      rw [HA.out]
      have := HM.out.get 0 rfl
      rw [List.take_of_length_le (by rw [HL.out]; exact Nat.le_refl _)] at this
      exact ⟨_, by simp only [HL.out]; rfl, this, HM.out.keep⟩
end En
end Go.Proofs.Ytmnmemeldjbifaa
