/-
  rule.sorted, rule.Unknown, petrelref15.Unknown.
-/
import Derived.Test.YtgllkfolckbdhaaGreatDoorRu2
set_option linter.unusedVariables false
set_option linter.unusedSimpArgs false
namespace Go.Proofs.YtgllkfolckbdhaaGreatDoor
open Go.RowKit
namespace Ru
open Oct Ids Gn Hd
open Mem (M It blk ids rows)

/-- Those that are known. -/
def kn (K : List Hh) (l : List (List UInt8)) : List Hh := l.filterMap (look K)
/-- The ids of the others. -/
def unk (K : List Hh) (l : List (List UInt8)) : List (List UInt8) := l.filter fun y => (look K y).isNone
theorem kn_snoc (K : List Hh) (l : List (List UInt8)) (y : List UInt8) : kn K (l ++ [y]) = kn K l ++ (look K y).toList := by
  unfold kn
  rw [List.filterMap_append]
  cases h : look K y <;> simp [h]
theorem unk_snoc (K : List Hh) (l : List (List UInt8)) (y : List UInt8) : unk K (l ++ [y]) = unk K l ++ (if (look K y).isNone = true then [y] else []) := by
  unfold unk
  rw [List.filter_append]
  cases h : look K y <;> simp [h]
theorem kn_le (K : List Hh) (l : List (List UInt8)) : (kn K l).length ≤ l.length := List.length_filterMap_le _ _
theorem unk_le (K : List Hh) (l : List (List UInt8)) : (unk K l).length ≤ l.length := List.length_filter_le _ _
theorem idx_look (K : List Hh) (y : List UInt8) : (St.idx (hits y) K < 0 ↔ (look K y).isNone = true) ∧ ∀ x, look K y = some x → ∃ i : Nat, St.idx (hits y) K = i ∧ K[i]? = some x := by
  unfold St.idx look
  cases h : K.findIdx? (hits y) with
  | none =>
    have h2 : K.find? (hits y) = none := by
      rw [List.findIdx?_eq_none_iff] at h
      rw [List.find?_eq_none]
      intro x hx
      simp [h x hx]
    rw [h2]
    exact ⟨by simp, fun x hx => by cases hx⟩
  | some i =>
    have h2 : ∃ x, K.find? (hits y) = some x ∧ K[i]? = some x := by
      rw [List.findIdx?_eq_some_iff_getElem] at h
      obtain ⟨hi, hp, hb⟩ := h
      refine ⟨K[i], ?_, List.getElem?_eq_getElem hi⟩
      rw [List.find?_eq_some_iff_getElem]
      exact ⟨hp, i, hi, rfl, fun j hj => by have := hb j hj; simpa using this⟩
    obtain ⟨x, h3, h4⟩ := h2
    rw [h3]
    refine ⟨?_, fun z hz => ⟨i, rfl, by cases hz; exact h4⟩⟩
    simp
set_option maxRecDepth 100000 in
set_option maxHeartbeats 4000000 in
theorem sorted_any (w : World) (hF : Sha.TabF w) (hKt : Sha.TabK w) (h : Hh) (hh : Hok w h) (a : Option Addr) (n c : Nat) (K : List Hh) (hA : St.At 38 he w a n K) (hk : ∀ x ∈ K, Hok w x) (hn : n ≤ 1000000) :
    Calls Tryz.prog 53 #[.agg (he h).toArray, .slice a n c] w fun e w' => ∃ v1 v2, e = .returned (.tuple #[v1, v2]) ∧ M (fun _ => False) w w' [rows 28 38 he v1 (kn K h.l), ids v2 (unk K h.l)] := by
  have HP : Hid (At w h.a h.n h.l) := hh.1
  have Hn : Hid (h.n ≤ 1000000) := hh.2.1
  have HFd : Hid (∀ w' y, Keep (fun _ => False) w w' → y.length = 32 → Calls Tryz.prog 76 #[idv y, .slice a n c] w' fun e w'' => e = .returned (.tuple #[.agg (lookX (look K y)), .bool (look K y).isSome]) ∧ Keep (fun _ => False) w' w'') := fun w' y k hy =>
    find_any w' (hF.keep k (fun h => h)) (hKt.keep k (fun h => h)) y hy a n c K (hA.calm k) (fun x hx => (hk x hx).calm k) hn
  have HM : Hid (M (fun _ => False) w _ [blk w.heap.size (.cells (he h).toArray 28), rows 28 38 he (.slice none 0 0) [], ids (.slice none 0 0) []]) := ((((M.start _ w).alloc (.cells (he h).toArray 28) rfl).nilR 28 38 he).nilI)
  have g0 : ((w.alloc (.cells (he h).toArray 28))).cell? ⟨w.heap.size, 0, none⟩ = some (.slice h.a h.n h.c) := HM.out.cell 0 rfl 0 rfl
  obtain ⟨pa, e1⟩ : ∃ p, h.a = p := ⟨_, rfl⟩
  obtain ⟨pn, e2⟩ : ∃ p, h.n = p := ⟨_, rfl⟩
  obtain ⟨pcap, e3⟩ : ∃ p, h.c = p := ⟨_, rfl⟩
  rw [e1, e2, e3] at g0
  rw [e1, e2] at HP
  rw [e2] at Hn
  generalize h.l = L at HP ⊢
  generalize (he h).toArray = X at HM g0 ⊢
  clear hh hF hKt hA hk hn e1 e2 e3
  go_enter Tryz.func53, Tryz.ntmps53
  go_wp2
  go_loopw [4, 5, 13] (fun s4 s5 i wr => ∃ (k : Nat) (v1 v2 : Value), k ≤ pn ∧ i = .int .i64 k ∧ s4 = v1 ∧ s5 = v2 ∧ M (fun _ => False) w wr [blk w.heap.size (.cells X 28), rows 28 38 he v1 (kn K (L.take k)), ids v2 (unk K (L.take k))]) (fun _ _ i _ => pn - (intOf i).toNat)
  case atStart => exact ⟨0, _, _, Nat.zero_le _, rfl, rfl, rfl, HM.out⟩
  case round =>
    obtain ⟨k, v1, v2, hkn, rfl, hv1, hv2, hM⟩ := hrel
    replace hv1 := hv1.symm
    replace hv2 := hv2.symm
    subst hv1 hv2
    have HM : Hid _ := hM
    clear hM
    have hpn : pn ≤ 1000000 := Hn.out
    by_cases hlt : k < pn
    · obtain ⟨y, hy⟩ : ∃ y, L[k]? = some y := ⟨_, List.getElem?_eq_getElem (by rw [HP.out.len]; exact hlt)⟩
      obtain ⟨b1, o1, rfl, hb1, hr1⟩ : ∃ b off, pa = some ⟨b, off, none⟩ ∧ b < w.heap.size ∧ ∀ i x, L[i]? = some x → w.rangeAt b (off + i * 32) (x.map bv) := by rcases HP.out.lay with e | e; omega; exact e
      have R1 : Hid (wr.rangeAt b1 (o1 + k * 32) (y.map bv)) := HM.out.keep.range hb1 (fun h => h) (hr1 k y hy)
      have Ly : Hid (y.length = 32) := HP.out.size y (List.mem_of_getElem? hy)
      have Hym : Hid ((y.map bv).toArray.size = 32) := by show _ = _; rw [List.size_toArray, List.length_map]; exact Ly.out
      have Hl1 : Hid ((kn K (L.take k)).length ≤ 1000000) := Nat.le_trans (kn_le _ _) (by rw [List.length_take]; have := Hn.out; omega)
      have Hl2 : Hid ((unk K (L.take k)).length ≤ 1000000) := Nat.le_trans (unk_le _ _) (by rw [List.length_take]; have := Hn.out; omega)
      have E1 : Hid (kn K (L.take (k + 1)) = kn K (L.take k) ++ (look K y).toList) := by show _ = _; rw [take_snoc hy, kn_snoc]
      have E2 : Hid (unk K (L.take (k + 1)) = unk K (L.take k) ++ (if (look K y).isNone = true then [y] else [])) := by show _ = _; rw [take_snoc hy, unk_snoc]
      have HC : Hid (∀ w', Keep (fun _ => False) w w' → Calls Tryz.prog 76 #[idv y, .slice a n c] w' fun e w'' => e = .returned (.tuple #[.agg (lookX (look K y)), .bool (look K y).isSome]) ∧ Keep (fun _ => False) w' w'') := fun w' k => HFd.out w' y k Ly.out
      clear hr1 hy hb1
      cases hlk : look K y with
      | none =>
        rw [hlk] at HC E1 E2
        have E1 : Hid (kn K (L.take (k + 1)) = kn K (L.take k)) := (by have := E1.out; simpa using this : kn K (L.take (k + 1)) = kn K (L.take k))
        have E2 : Hid (unk K (L.take (k + 1)) = unk K (L.take k) ++ [y]) := (by have := E2.out; simpa using this : unk K (L.take (k + 1)) = unk K (L.take k) ++ [y])
        have HC : Hid (∀ w', Keep (fun _ => False) w w' → Calls Tryz.prog 76 #[idv y, .slice a n c] w' fun e w'' => e = .returned (.tuple #[.agg hz0, .bool false]) ∧ Keep (fun _ => False) w' w'') := HC.out
        clear hlk
        go_wp2_with (first | ((with_reducible refine at_load 24 ?_); first | (refine Ids.wl_load rfl rfl rfl Ly.out R1.out ?_; simp only [Act.put, List.setIfInBounds_toArray, List.set_cons_zero, List.set_cons_succ]) | (refine Ids.wl_load rfl rfl rfl Ly.out (HM.out.range 3 rfl) ?_; simp only [Act.put, List.setIfInBounds_toArray, List.set_cons_zero, List.set_cons_succ])) | (refine St.wl_alloc tyI rfl rfl (by (try simp only [World.size_alloc]); rfl) ?_; simp only [Act.put, List.setIfInBounds_toArray, List.set_cons_zero, List.set_cons_succ]) | (refine St.wl_storeN (W := wr) tyI rfl rfl rfl rfl rfl (by (try simp only [World.size_alloc])) (show _ = Value.agg (y.map bv).toArray from rfl) Hym.out rfl (one_bv _) ?_; have HM : Hid _ := HM.out.alloc (.cells (y.map bv).toArray 24) rfl) | (go_at_call 76; refine (HC.out _ HM.out.keep).mono ?_; rintro e w2 ⟨rfl, k2⟩; have HM : Hid _ := HM.out.calm k2; clear k2) | (refine St.wl_alloc tyH rfl rfl (by (try simp only [World.size_alloc]); rfl) ?_; simp only [Act.put, List.setIfInBounds_toArray, List.set_cons_zero, List.set_cons_succ]) | (refine St.wl_storeN (W := w2) tyH rfl rfl rfl rfl rfl (by (try simp only [World.size_alloc])) (show _ = Value.agg (hz0) from rfl) (rfl) rfl (hd_one _ _ _ _ _ _ _ _ _) ?_; have HM : Hid _ := HM.out.alloc (.cells (hz0) 28) rfl) | (refine Ids.wl_build rfl rfl Ly.out rfl ?_; have HM : Hid _ := HM.out.alloc (.cells (y.map bv).toArray 24) (by first | rfl | simp only [World.size_alloc]); simp only [Act.put, List.setIfInBounds_toArray, List.set_cons_zero, List.set_cons_succ]) | (refine Ids.wl_app1 rfl rfl rfl (HM.out.get 2 rfl) rfl Ly.out (heap_alloc_new _ _) Hl2.out ?_; intro v3 w3 h1 k1 h3; have HM : Hid _ := HM.out.appI 2 rfl h1 k1 h3; clear h1 k1 h3; simp only [Act.put, List.setIfInBounds_toArray, List.set_cons_zero, List.set_cons_succ]))
        go_roundw
        case rel => exact ⟨k + 1, _, _, by omega, rfl, rfl, rfl, by rw [E1.out, E2.out]; exact HM.out.take 3⟩
        case measure => simp [intOf]; omega
      | some x =>
        rw [hlk] at HC E1 E2
        have E1 : Hid (kn K (L.take (k + 1)) = kn K (L.take k) ++ [x]) := (by have := E1.out; simpa using this : kn K (L.take (k + 1)) = kn K (L.take k) ++ [x])
        have E2 : Hid (unk K (L.take (k + 1)) = unk K (L.take k)) := (by have := E2.out; simpa using this : unk K (L.take (k + 1)) = unk K (L.take k))
        have HC : Hid (∀ w', Keep (fun _ => False) w w' → Calls Tryz.prog 76 #[idv y, .slice a n c] w' fun e w'' => e = .returned (.tuple #[.agg (he x).toArray, .bool true]) ∧ Keep (fun _ => False) w' w'') := HC.out
        clear hlk
        go_wp2_with (first | ((with_reducible refine at_load 24 ?_); first | (refine Ids.wl_load rfl rfl rfl Ly.out R1.out ?_; simp only [Act.put, List.setIfInBounds_toArray, List.set_cons_zero, List.set_cons_succ]) | (refine Ids.wl_load rfl rfl rfl Ly.out (HM.out.range 3 rfl) ?_; simp only [Act.put, List.setIfInBounds_toArray, List.set_cons_zero, List.set_cons_succ])) | (refine St.wl_alloc tyI rfl rfl (by (try simp only [World.size_alloc]); rfl) ?_; simp only [Act.put, List.setIfInBounds_toArray, List.set_cons_zero, List.set_cons_succ]) | (refine St.wl_storeN (W := wr) tyI rfl rfl rfl rfl rfl (by (try simp only [World.size_alloc])) (show _ = Value.agg (y.map bv).toArray from rfl) Hym.out rfl (one_bv _) ?_; have HM : Hid _ := HM.out.alloc (.cells (y.map bv).toArray 24) rfl) | (go_at_call 76; refine (HC.out _ HM.out.keep).mono ?_; rintro e w2 ⟨rfl, k2⟩; have HM : Hid _ := HM.out.calm k2; clear k2) | (refine St.wl_alloc tyH rfl rfl (by (try simp only [World.size_alloc]); rfl) ?_; simp only [Act.put, List.setIfInBounds_toArray, List.set_cons_zero, List.set_cons_succ]) | (refine St.wl_storeN (W := w2) tyH rfl rfl rfl rfl rfl (by (try simp only [World.size_alloc])) (show _ = Value.agg ((he x).toArray) from rfl) ((he_sz x)) rfl ((he_one x)) ?_; have HM : Hid _ := HM.out.alloc (.cells ((he x).toArray) 28) rfl) | ((with_reducible refine at_load 28 ?_); refine St.wl_load tyH (by rfl) rfl rfl (HM.out.range 4 rfl) (he_len x) ?_; simp only [Act.put, List.setIfInBounds_toArray, List.set_cons_zero, List.set_cons_succ]) | (refine St.wl_build slHe (by decide) rfl rfl (he_len x) rfl ?_; have HM : Hid _ := HM.out.alloc (.cells (he x).toArray 28) (by first | rfl | simp only [World.size_alloc]); simp only [Act.put, List.setIfInBounds_toArray, List.set_cons_zero, List.set_cons_succ]) | (refine St.wl_app1 slHe (by decide) rfl rfl rfl (HM.out.get 1 rfl) rfl (he_len x) (he_one x) (heap_alloc_new _ _) Hl1.out ?_; intro v3 w3 h1 k1 h3; have HM : Hid _ := HM.out.appR 1 rfl h1 k1 h3; clear h1 k1 h3; simp only [Act.put, List.setIfInBounds_toArray, List.set_cons_zero, List.set_cons_succ]))
        go_roundw
        case rel => exact ⟨k + 1, _, _, by omega, rfl, rfl, rfl, by rw [E1.out, E2.out]; exact HM.out.take 3⟩
        case measure => simp [intOf]; omega
    · obtain rfl : k = pn := by omega
      have e : L.take k = L := List.take_of_length_le (by rw [HP.out.len]; exact Nat.le_refl _)
      rw [e] at HM
      go_wp2
      go_ret2
      exact ⟨_, _, rfl, HM.out.sub _ [1, 2] (by decide) rfl⟩
end Ru
end Go.Proofs.YtgllkfolckbdhaaGreatDoor
