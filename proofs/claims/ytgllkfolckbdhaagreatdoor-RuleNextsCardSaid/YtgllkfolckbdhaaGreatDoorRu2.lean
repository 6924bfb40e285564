/-
  rule.find, petrelref15.find.
-/
import Derived.Test.YtgllkfolckbdhaaGreatDoorRu1
set_option linter.unusedVariables false
set_option linter.unusedSimpArgs false
namespace Go.Proofs.YtgllkfolckbdhaaGreatDoor
open Go.RowKit
namespace Ru
open Oct Ids Gn Hd
open Mem (M It blk ids rows)

/-- Is it that one? -/
def hits (id : List UInt8) (x : Hh) : Bool := hck x == 0 && hiv x == id
/-- The known header of an id. -/
def look (K : List Hh) (id : List UInt8) : Option Hh := K.find? (hits id)
theorem look_some {K : List Hh} {id : List UInt8} {k : Nat} {x : Hh} (hx : K[k]? = some x) (h : hits id x = true) (hb : ∀ (j : Nat) (y : Hh), j < k → K[j]? = some y → hits id y = false) : look K id = some x := by
  unfold look
  rw [List.find?_eq_some_iff_getElem]
  have hk := (List.getElem?_eq_some_iff.1 hx).1
  refine ⟨h, k, hk, (List.getElem?_eq_some_iff.1 hx).2, fun j hj => ?_⟩
  have := hb j _ hj (List.getElem?_eq_getElem (by omega))
  simp [this]
theorem look_none {K : List Hh} {id : List UInt8} (hb : ∀ (j : Nat) (y : Hh), j < K.length → K[j]? = some y → hits id y = false) : look K id = none := by
  unfold look
  rw [List.find?_eq_none]
  intro x hx
  obtain ⟨j, hj, rfl⟩ := List.getElem_of_mem hx
  simp [hb j _ hj (List.getElem?_eq_getElem hj)]
/-- The header as it is told; all nought: there is none. -/
def lookX (o : Option Hh) : Array Value := match o with | some x => (he x).toArray | none => hz0
theorem lookX_sz (o : Option Hh) : (lookX o).size = 38 := by
  cases o with
  | none => rfl
  | some x => exact he_sz x
theorem lookX_one (o : Option Hh) : (lookX o).all (·.oneCell') = true := by
  cases o with
  | none => exact hd_one _ _ _ _ _ _ _ _ _
  | some x => exact he_one x
set_option maxRecDepth 100000 in
set_option maxHeartbeats 4000000 in
theorem find_any (w : World) (hF : Sha.TabF w) (hK : Sha.TabK w) (id : List UInt8) (hi : id.length = 32) (a : Option Addr) (n c : Nat) (K : List Hh) (h : St.At 38 he w a n K) (hk : ∀ x ∈ K, Hok w x) (hn : n ≤ 1000000) :
    Calls Tryz.prog 76 #[idv id, .slice a n c] w fun e w' => e = .returned (.tuple #[.agg (lookX (look K id)), .bool (look K id).isSome]) ∧ Keep (fun _ => False) w w' := by
  have HA : Hid (St.At 38 he w a n K) := h
  have HK : Hid (∀ x ∈ K, Hok w x) := hk
  have Hi : Hid (id.length = 32) := hi
  have HF : Hid (Sha.TabF w) := hF
  have HKt : Hid (Sha.TabK w) := hK
  have HM : Hid (M (fun _ => False) w _ [blk w.heap.size (.cells (id.map bv).toArray 24), blk (w.heap.size + 1) (.cells hz0 28)]) := ((M.start _ w).alloc (.cells (id.map bv).toArray 24) rfl).alloc (.cells hz0 28) (by simp)
  clear h hk hi hF hK
  go_enter Tryz.func76, Tryz.ntmps76
  go_wp2_with (first | (refine St.wl_alloc tyH rfl rfl (by (try simp only [World.size_alloc]); rfl) ?_; simp only [Act.put, List.setIfInBounds_toArray, List.set_cons_zero, List.set_cons_succ]))
  go_loopw [12] (fun i wr => ∃ (k : Nat), k ≤ n ∧ i = .int .i64 k ∧ (∀ (j : Nat) (y : Hh), j < k → K[j]? = some y → hits id y = false) ∧ M (fun _ => False) w wr [blk w.heap.size (.cells (id.map bv).toArray 24), blk (w.heap.size + 1) (.cells hz0 28)]) (fun i _ => n - (intOf i).toNat)
  case atStart => exact ⟨0, Nat.zero_le _, rfl, fun j y hj => absurd hj (Nat.not_lt_zero _), HM.out⟩
  case round =>
    obtain ⟨k, hkn, rfl, hno, hM⟩ := hrel
    have HM : Hid _ := hM
    have HNo : Hid (∀ (j : Nat) (y : Hh), j < k → K[j]? = some y → hits id y = false) := hno
    clear hM hno
    by_cases hlt : k < n
    · skip
      obtain ⟨x, hx⟩ : ∃ x, K[k]? = some x := ⟨_, List.getElem?_eq_getElem (by rw [HA.out.len]; exact hlt)⟩
      obtain ⟨b1, o1, rfl, hb1, hr1⟩ : ∃ b off, a = some ⟨b, off, none⟩ ∧ b < w.heap.size ∧ ∀ i x, K[i]? = some x → w.rangeAt b (off + i * 38) (he x) := by rcases HA.out.lay with e | e; omega; exact e
      have R1 : Hid (wr.rangeAt b1 (o1 + k * 38) (he x)) := HM.out.keep.range hb1 (fun h => h) (hr1 k x hx)
      have Hx : Hid (K[k]? = some x) := hx
      have hok : Hok w x := HK.out x (List.mem_of_getElem? hx)
      have HI : Hid (∀ w', Keep (fun _ => False) w w' → Calls Tryz.prog 39 #[.agg (he x).toArray] w' fun e w'' => e = .returned (.tuple #[idv (hiv x), .int .i64 (hck x)]) ∧ Keep (fun _ => False) w' w'') := fun w' k => hident w' (HF.out.keep k (fun h => h)) (HKt.out.keep k (fun h => h)) x (hok.calm k)
      have hul := hiv_len x
      have HT : Hid (hits id x = (hck x == 0 && hiv x == id)) := (rfl : _ = _)
      generalize hiv x = u at HI hul HT
      generalize hck x = v at HI HT
      have Hul : Hid (u.length = 32) := hul
      have Hum : Hid ((u.map bv).toArray.size = 32) := by show _ = _; rw [List.size_toArray, List.length_map]; exact hul
      have hcmp : ∀ w, Sem.run Tryz.prog (binOp .eql 24 (idv u) (idv id)) w = .ok (.bool (u == id)) w := fun w => eql_id w u id hul Hi.out
      clear hr1 hx hb1 hok hul
      by_cases h0 : v = 0
      · subst h0
        cases hu : u == id with
        | false =>
          rw [hu] at hcmp
          go_wp2_with (first | ((with_reducible refine at_load 28 ?_); first | (refine St.wl_load tyH (by rfl) rfl rfl R1.out (he_len x) ?_; simp only [Act.put, List.setIfInBounds_toArray, List.set_cons_zero, List.set_cons_succ]) | (refine St.wl_load tyH (by rfl) rfl rfl (HM.out.range 2 rfl) (he_len x) ?_; simp only [Act.put, List.setIfInBounds_toArray, List.set_cons_zero, List.set_cons_succ])) | (refine St.wl_alloc tyH rfl rfl (by (try simp only [World.size_alloc]); rfl) ?_; simp only [Act.put, List.setIfInBounds_toArray, List.set_cons_zero, List.set_cons_succ]) | (refine St.wl_storeN (W := wr) tyH rfl rfl rfl rfl rfl (by (try simp only [World.size_alloc])) (show _ = Value.agg (he x).toArray from rfl) (he_sz x) rfl (he_one x) ?_; have HM : Hid _ := HM.out.alloc (.cells (he x).toArray 28) rfl) | (go_at_call 39; refine (HI.out _ HM.out.keep).mono ?_; rintro e w2 ⟨rfl, k2⟩; have HM : Hid _ := HM.out.calm k2; clear k2) | (refine St.wl_alloc tyI rfl rfl (by (try simp only [World.size_alloc]); rfl) ?_; simp only [Act.put, List.setIfInBounds_toArray, List.set_cons_zero, List.set_cons_succ]) | (refine St.wl_storeN (W := w2) tyI rfl rfl rfl rfl rfl (by (try simp only [World.size_alloc])) (show _ = Value.agg (u.map bv).toArray from rfl) Hum.out rfl (one_bv _) ?_; have HM : Hid _ := HM.out.alloc (.cells (u.map bv).toArray 24) rfl) | ((with_reducible refine at_load 24 ?_); first | (refine wl_loadG (by rfl) rfl rfl Hul.out (HM.out.range 3 rfl) ?_; simp only [Act.put, List.setIfInBounds_toArray, List.set_cons_zero, List.set_cons_succ]) | (refine wl_loadG (by rfl) rfl rfl Hi.out (HM.out.range 0 rfl) ?_; simp only [Act.put, List.setIfInBounds_toArray, List.set_cons_zero, List.set_cons_succ])))
          go_roundw
          case rel =>
            refine ⟨k + 1, by omega, rfl, fun j y hj hy => ?_, HM.out.take 2⟩
            rcases Nat.lt_or_ge j k with h | h
            · exact HNo.out j y h hy
            · obtain rfl : j = k := by omega
              rw [Hx.out] at hy
              cases hy
              rw [HT.out]
              simp [hu]
          case measure => simp [intOf]; omega
        | true =>
          rw [hu] at hcmp
          have HX : Hid (lookX (look K id) = (he x).toArray ∧ (look K id).isSome = true) := by
            have := look_some Hx.out (by rw [HT.out, hu]; rfl) HNo.out
            show _ ∧ _
            rw [this]
            exact ⟨rfl, rfl⟩
          go_wp2_with (first | ((with_reducible refine at_load 28 ?_); first | (refine St.wl_load tyH (by rfl) rfl rfl R1.out (he_len x) ?_; simp only [Act.put, List.setIfInBounds_toArray, List.set_cons_zero, List.set_cons_succ]) | (refine St.wl_load tyH (by rfl) rfl rfl (HM.out.range 2 rfl) (he_len x) ?_; simp only [Act.put, List.setIfInBounds_toArray, List.set_cons_zero, List.set_cons_succ])) | (refine St.wl_alloc tyH rfl rfl (by (try simp only [World.size_alloc]); rfl) ?_; simp only [Act.put, List.setIfInBounds_toArray, List.set_cons_zero, List.set_cons_succ]) | (refine St.wl_storeN (W := wr) tyH rfl rfl rfl rfl rfl (by (try simp only [World.size_alloc])) (show _ = Value.agg (he x).toArray from rfl) (he_sz x) rfl (he_one x) ?_; have HM : Hid _ := HM.out.alloc (.cells (he x).toArray 28) rfl) | (go_at_call 39; refine (HI.out _ HM.out.keep).mono ?_; rintro e w2 ⟨rfl, k2⟩; have HM : Hid _ := HM.out.calm k2; clear k2) | (refine St.wl_alloc tyI rfl rfl (by (try simp only [World.size_alloc]); rfl) ?_; simp only [Act.put, List.setIfInBounds_toArray, List.set_cons_zero, List.set_cons_succ]) | (refine St.wl_storeN (W := w2) tyI rfl rfl rfl rfl rfl (by (try simp only [World.size_alloc])) (show _ = Value.agg (u.map bv).toArray from rfl) Hum.out rfl (one_bv _) ?_; have HM : Hid _ := HM.out.alloc (.cells (u.map bv).toArray 24) rfl) | ((with_reducible refine at_load 24 ?_); first | (refine wl_loadG (by rfl) rfl rfl Hul.out (HM.out.range 3 rfl) ?_; simp only [Act.put, List.setIfInBounds_toArray, List.set_cons_zero, List.set_cons_succ]) | (refine wl_loadG (by rfl) rfl rfl Hi.out (HM.out.range 0 rfl) ?_; simp only [Act.put, List.setIfInBounds_toArray, List.set_cons_zero, List.set_cons_succ])) | (refine St.wl_store tyH rfl rfl rfl rfl rfl (cs := (he x).toArray) (he_sz x) (he_one x) (HM.out.get 1 rfl) rfl ?_; have HM : Hid _ := HM.out.setr 1 rfl (he x).toArray))
          refine bodyPost_ret (St.res2 tyH rfl _ _ _ ((he x).toArray) (he_sz x) rfl (HM.out.get 1 rfl) _ rfl) rfl ?_
          exact ⟨by rw [HX.out.1, HX.out.2]; try rfl, HM.out.keep⟩
      · have h1 : (v == 0) = false := by simpa using h0
        clear h0 hcmp
        go_wp2_with (first | ((with_reducible refine at_load 28 ?_); first | (refine St.wl_load tyH (by rfl) rfl rfl R1.out (he_len x) ?_; simp only [Act.put, List.setIfInBounds_toArray, List.set_cons_zero, List.set_cons_succ]) | (refine St.wl_load tyH (by rfl) rfl rfl (HM.out.range 2 rfl) (he_len x) ?_; simp only [Act.put, List.setIfInBounds_toArray, List.set_cons_zero, List.set_cons_succ])) | (refine St.wl_alloc tyH rfl rfl (by (try simp only [World.size_alloc]); rfl) ?_; simp only [Act.put, List.setIfInBounds_toArray, List.set_cons_zero, List.set_cons_succ]) | (refine St.wl_storeN (W := wr) tyH rfl rfl rfl rfl rfl (by (try simp only [World.size_alloc])) (show _ = Value.agg (he x).toArray from rfl) (he_sz x) rfl (he_one x) ?_; have HM : Hid _ := HM.out.alloc (.cells (he x).toArray 28) rfl) | (go_at_call 39; refine (HI.out _ HM.out.keep).mono ?_; rintro e w2 ⟨rfl, k2⟩; have HM : Hid _ := HM.out.calm k2; clear k2) | (refine St.wl_alloc tyI rfl rfl (by (try simp only [World.size_alloc]); rfl) ?_; simp only [Act.put, List.setIfInBounds_toArray, List.set_cons_zero, List.set_cons_succ]) | (refine St.wl_storeN (W := w2) tyI rfl rfl rfl rfl rfl (by (try simp only [World.size_alloc])) (show _ = Value.agg (u.map bv).toArray from rfl) Hum.out rfl (one_bv _) ?_; have HM : Hid _ := HM.out.alloc (.cells (u.map bv).toArray 24) rfl) | ((with_reducible refine at_load 24 ?_); first | (refine wl_loadG (by rfl) rfl rfl Hul.out (HM.out.range 3 rfl) ?_; simp only [Act.put, List.setIfInBounds_toArray, List.set_cons_zero, List.set_cons_succ]) | (refine wl_loadG (by rfl) rfl rfl Hi.out (HM.out.range 0 rfl) ?_; simp only [Act.put, List.setIfInBounds_toArray, List.set_cons_zero, List.set_cons_succ])))
        go_roundw
        case rel =>
          refine ⟨k + 1, by omega, rfl, fun j y hj hy => ?_, HM.out.take 2⟩
          rcases Nat.lt_or_ge j k with h | h
          · exact HNo.out j y h hy
          · obtain rfl : j = k := by omega
            rw [Hx.out] at hy
            cases hy
            rw [HT.out]
            simp [h1]
        case measure => simp [intOf]; omega
    · obtain rfl : k = n := by omega
      have HX : Hid (lookX (look K id) = hz0 ∧ (look K id).isSome = false) := by
        have := look_none (K := K) (id := id) (fun j y hj hy => HNo.out j y (by rw [HA.out.len] at hj; exact hj) hy)
        show _ ∧ _
        rw [this]
        exact ⟨rfl, rfl⟩
      go_wp2_with (first | (refine St.wl_buildV (T := 28) (parts := #[]) rfl rfl (cs := hz0) (by kernel_rfl) ?_; simp only [Act.put, List.setIfInBounds_toArray, List.set_cons_zero, List.set_cons_succ]) | (refine St.wl_store tyH rfl rfl rfl rfl rfl (cs := hz0) rfl (hd_one _ _ _ _ _ _ _ _ _) (HM.out.get 1 rfl) rfl ?_; have HM : Hid _ := HM.out.setr 1 rfl hz0))
      refine bodyPost_ret (St.res2 tyH rfl _ _ _ hz0 rfl rfl (HM.out.get 1 rfl) _ rfl) rfl ?_
      exact ⟨by rw [HX.out.1, HX.out.2]; try rfl, HM.out.keep⟩
end Ru
end Go.Proofs.YtgllkfolckbdhaaGreatDoor
