/-
  rule.Unknown, rule.Verdict, petrelref15.Unknown, petrelref15.Verdict.
-/
import Derived.Test.YtdpkklinpbmkfaaGreatDoorRu3
set_option linter.unusedVariables false
set_option linter.unusedSimpArgs false
namespace Go.Proofs.YtdpkklinpbmkfaaGreatDoor
open Go.RowKit
namespace Ru
open Oct Ids Gn Hd
open Mem (M It blk ids rows)

theorem new_of {w w' : World} {it : List It} {v : Value} {els : List (List UInt8)} (h : M (fun _ => False) w w' it) (i : Nat) (hi : it[i]? = some (ids v els)) : New w w' v els :=
  ⟨h.get i hi, h.keep, fun k hk => (h.rng i _ hi k hk).1.resolve_right (fun h => h)⟩
/-- May it be accepted? -/
def vrd (h : Hh) (K : List Hh) : Int := if hck h = 0 then (if (unk K h.l).length = 0 then (if hgt (kn K h.l) = h.G then 0 else 12) else 11) else hck h
section
variable (w : World) (hF : Sha.TabF w) (hKt : Sha.TabK w) (h : Hh) (hh : Hok w h) (a : Option Addr) (n c : Nat) (K : List Hh) (hA : St.At 38 he w a n K) (hk : ∀ x ∈ K, Hok w x) (hn : n ≤ 1000000)
include hF hKt hh hA hk hn
set_option maxRecDepth 100000 in
theorem unknown_any : Calls Tryz.prog 35 #[.agg (he h).toArray, .slice a n c] w fun e w' => ∃ v, e = .returned v ∧ New w w' v (unk K h.l) := by
  have HS : Hid (∀ w', Keep (fun _ => False) w w' → Calls Tryz.prog 73 #[.agg (he h).toArray, .slice a n c] w' fun e w'' => ∃ v1 v2, e = .returned (.tuple #[v1, v2]) ∧ M (fun _ => False) w' w'' [rows 30 38 he v1 (kn K h.l), ids v2 (unk K h.l)]) := fun w' k =>
    sorted_any w' (hF.keep k (fun h => h)) (hKt.keep k (fun h => h)) h (hh.calm k) a n c K (hA.calm k) (fun x hx => (hk x hx).calm k) hn
  have HM : Hid (M (fun _ => False) w _ [blk w.heap.size (.cells (he h).toArray 30)]) := (M.start _ w).alloc (.cells (he h).toArray 30) rfl
  clear hh hF hKt hA hk hn
  go_enter Tryz.func35, Tryz.ntmps35
  go_wp2_with (first | ((with_reducible refine at_load 30 ?_); refine St.wl_load tyH (by rfl) rfl rfl (HM.out.range 0 rfl) (he_len h) ?_; simp only [Act.put, List.setIfInBounds_toArray, List.set_cons_zero, List.set_cons_succ]) | (go_at_call 73; refine (HS.out _ HM.out.keep).mono ?_; rintro e w2 ⟨v1, v2, rfl, h2⟩; have N2 : Hid _ := new_of h2 1 rfl; clear h2))
  go_ret
  exact ⟨_, rfl, N2.out.1, HM.out.keep.trans N2.out.2.1, fun k hk => Nat.le_trans HM.out.keep.size (N2.out.2.2 k hk)⟩
set_option maxRecDepth 100000 in
set_option maxHeartbeats 2000000 in
theorem verdict_any : Calls Tryz.prog 33 #[.agg (he h).toArray, .slice a n c] w fun e w' => e = .returned (.int .i64 (vrd h K)) ∧ Keep (fun _ => False) w w' := by
  have HS : Hid (∀ w', Keep (fun _ => False) w w' → Calls Tryz.prog 73 #[.agg (he h).toArray, .slice a n c] w' fun e w'' => ∃ v1 v2, e = .returned (.tuple #[v1, v2]) ∧ M (fun _ => False) w' w'' [rows 30 38 he v1 (kn K h.l), ids v2 (unk K h.l)]) := fun w' k =>
    sorted_any w' (hF.keep k (fun h => h)) (hKt.keep k (fun h => h)) h (hh.calm k) a n c K (hA.calm k) (fun x hx => (hk x hx).calm k) hn
  have HC : Hid (∀ w', Keep (fun _ => False) w w' → Calls Tryz.prog 69 #[.agg (he h).toArray] w' fun e w'' => e = .returned (.int .i64 (hck h)) ∧ Keep (fun _ => False) w' w'') := fun w' k => hcheck w' h (hh.calm k)
  have HM : Hid (M (fun _ => False) w _ [blk w.heap.size (.cells (he h).toArray 30)]) := (M.start _ w).alloc (.cells (he h).toArray 30) rfl
  have Hle : Hid ((kn K h.l).length ≤ 1000000) := Nat.le_trans (kn_le _ _) (by rw [hh.1.len]; exact hh.2.1)
  have HV : Hid (vrd h K = if hck h = 0 then (if (unk K h.l).length = 0 then (if hgt (kn K h.l) = h.G then 0 else 12) else 11) else hck h) := (rfl : _ = _)
  generalize hck h = v at HC HV
  generalize vrd h K = r at HV ⊢
  clear hh hF hKt hA hk hn
  by_cases h0 : v = 0
  case neg =>
    have h1 : (v != 0) = true := by simpa using h0
    have HR : Hid (r = v) := by rw [HV.out, if_neg h0]; exact rfl
    clear h0 HV
    go_enter Tryz.func33, Tryz.ntmps33
    go_wp2_with (first | ((with_reducible refine at_load 30 ?_); refine St.wl_load tyH (by rfl) rfl rfl (HM.out.range 0 rfl) (he_len h) ?_; simp only [Act.put, List.setIfInBounds_toArray, List.set_cons_zero, List.set_cons_succ]) | (go_at_call 69; refine (HC.out _ HM.out.keep).mono ?_; rintro e w1 ⟨rfl, k1⟩; have HM : Hid _ := HM.out.calm k1; clear k1))
    go_ret
    exact ⟨by rw [HR.out]; try rfl, HM.out.keep⟩
  subst h0
  rw [if_pos rfl] at HV
  obtain ⟨q, hq⟩ : ∃ q, (unk K h.l).length = q := ⟨_, rfl⟩
  rw [hq] at HV
  have HQ : Hid ((unk K h.l).length = q) := hq
  clear hq
  by_cases h0 : q = 0
  case neg =>
    have h1 : (0 : Int) < (q : Int) := by omega
    have HR : Hid (r = 11) := by rw [HV.out, if_neg h0]; exact rfl
    clear h0 HV
    go_enter Tryz.func33, Tryz.ntmps33
    go_wp2_with (first | ((with_reducible refine at_load 30 ?_); refine St.wl_load tyH (by rfl) rfl rfl (HM.out.range 0 rfl) (he_len h) ?_; simp only [Act.put, List.setIfInBounds_toArray, List.set_cons_zero, List.set_cons_succ]) | (go_at_call 69; refine (HC.out _ HM.out.keep).mono ?_; rintro e w1 ⟨rfl, k1⟩; have HM : Hid _ := HM.out.calm k1; clear k1) | (go_at_call 73; refine (HS.out _ HM.out.keep).mono ?_; rintro e w2 ⟨v1, v2, rfl, h2⟩; obtain ⟨a2, c2, e2, at2⟩ := (show St.Own 30 38 he w2 v1 (kn K h.l) from h2.get 0 rfl).any; obtain ⟨a3, c3, e3, at3, _⟩ := (show Own w2 v2 (unk K h.l) from h2.get 1 rfl).at; rw [HQ.out] at e3; subst e2 e3; have HM : Hid (M (fun _ => False) w w2 [blk w.heap.size (.cells (he h).toArray 30), rows 30 38 he (.slice a2 (kn K h.l).length c2) (kn K h.l)]) := (HM.out.then h2).take 2; clear h2 at2 at3))
    go_ret
    exact ⟨by rw [HR.out]; try rfl, HM.out.keep⟩
  subst h0
  rw [if_pos rfl] at HV
  go_enter Tryz.func33, Tryz.ntmps33
  go_wp2_with (first | ((with_reducible refine at_load 30 ?_); refine St.wl_load tyH (by rfl) rfl rfl (HM.out.range 0 rfl) (he_len h) ?_; simp only [Act.put, List.setIfInBounds_toArray, List.set_cons_zero, List.set_cons_succ]) | (go_at_call 69; refine (HC.out _ HM.out.keep).mono ?_; rintro e w1 ⟨rfl, k1⟩; have HM : Hid _ := HM.out.calm k1; clear k1) | (go_at_call 73; refine (HS.out _ HM.out.keep).mono ?_; rintro e w2 ⟨v1, v2, rfl, h2⟩; obtain ⟨a2, c2, e2, at2⟩ := (show St.Own 30 38 he w2 v1 (kn K h.l) from h2.get 0 rfl).any; obtain ⟨a3, c3, e3, at3, _⟩ := (show Own w2 v2 (unk K h.l) from h2.get 1 rfl).at; rw [HQ.out] at e3; subst e2 e3; have HM : Hid (M (fun _ => False) w w2 [blk w.heap.size (.cells (he h).toArray 30), rows 30 38 he (.slice a2 (kn K h.l).length c2) (kn K h.l)]) := (HM.out.then h2).take 2; clear h2 at2 at3))
  have HM : Hid _ := HM.out.drew
  refine Txt.wp_region_text (fun w' => w'.cell? ⟨w.heap.size, 1, none⟩ = some (.int .i64 h.G)) [0, 4, 0, 2, 0, 0] (by kernel_rfl) (by kernel_rfl) (HM.out.cell 0 rfl 1 rfl) ?_
  (repeat (first | (refine Txt.tl_pure (v := ?_) (by rfl) ?_ ?_; rotate_left; (focus (intro _; go_simp; try with_reducible rfl)); simp only [Act.put, List.setIfInBounds_toArray, List.set_cons_zero, List.set_cons_succ]) | (refine Txt.tl_load (v := ?_) (by rfl) (by rfl) (by rfl) (by kernel_rfl) ?_ ?_; rotate_left; (focus assumption); simp only [Act.put, List.setIfInBounds_toArray, List.set_cons_zero, List.set_cons_succ]) | (refine Txt.tl_loadS (v := ?_) (by rfl) (by rfl) (by rfl) (by kernel_rfl) ?_ ?_; rotate_left; (focus (exact fun _ h => h)); simp only [Act.put, List.setIfInBounds_toArray, List.set_cons_zero, List.set_cons_succ])))
  refine Txt.tl_call Tryz.func37 (by kernel_rfl) (by kernel_rfl) (by rfl) (by rfl) (by rfl) (vs := #[.slice a2 (kn K h.l).length c2]) (height_any _ a2 _ c2 _ (show St.Own _ _ _ _ _ _ from HM.out.get 1 rfl).slice.2 Hle.out) ?_
  rintro e w5 ⟨rfl, k5⟩
  have HM : Hid _ := HM.out.calm k5
  clear k5
  have cx : w5.cell? ⟨w.heap.size, 1, none⟩ = some (.int .i64 h.G) := HM.out.cell 0 rfl 1 rfl
  refine ⟨_, rfl, cx, ?_⟩
  simp only [Act.put, List.setIfInBounds_toArray, List.set_cons_zero, List.set_cons_succ]
  (repeat (first | (refine Txt.tl_pure (v := ?_) (by rfl) ?_ ?_; rotate_left; (focus (intro _; go_simp; try with_reducible rfl)); simp only [Act.put, List.setIfInBounds_toArray, List.set_cons_zero, List.set_cons_succ]) | (refine Txt.tl_load (v := ?_) (by rfl) (by rfl) (by rfl) (by kernel_rfl) ?_ ?_; rotate_left; (focus assumption); simp only [Act.put, List.setIfInBounds_toArray, List.set_cons_zero, List.set_cons_succ]) | (refine Txt.tl_loadS (v := ?_) (by rfl) (by rfl) (by rfl) (by kernel_rfl) ?_ ?_; rotate_left; (focus (exact fun _ h => h)); simp only [Act.put, List.setIfInBounds_toArray, List.set_cons_zero, List.set_cons_succ])))
  refine Txt.tl_loadS (v := .int .i64 h.G) (ty := 3) (by rfl) (by rfl) (by rfl) (by kernel_rfl) (fun _ h => h) ?_
  simp only [Act.put, List.setIfInBounds_toArray, List.set_cons_zero, List.set_cons_succ]
  (repeat (first | (refine Txt.tl_pure (v := ?_) (by rfl) ?_ ?_; rotate_left; (focus (intro _; go_simp; try with_reducible rfl)); simp only [Act.put, List.setIfInBounds_toArray, List.set_cons_zero, List.set_cons_succ]) | (refine Txt.tl_load (v := ?_) (by rfl) (by rfl) (by rfl) (by kernel_rfl) ?_ ?_; rotate_left; (focus assumption); simp only [Act.put, List.setIfInBounds_toArray, List.set_cons_zero, List.set_cons_succ]) | (refine Txt.tl_loadS (v := ?_) (by rfl) (by rfl) (by rfl) (by kernel_rfl) ?_ ?_; rotate_left; (focus (exact fun _ h => h)); simp only [Act.put, List.setIfInBounds_toArray, List.set_cons_zero, List.set_cons_succ])))
  refine Txt.tl_nil ?_
  generalize hgt (kn K h.l) = t at HV ⊢
  by_cases h0 : t = h.G
  · have h1 : (t != h.G) = false := by simpa using h0
    have HR : Hid (r = 0) := by rw [HV.out, if_pos h0]; exact rfl
    clear h0 HV
    go_wp2
    go_ret
    exact ⟨by rw [HR.out]; try rfl, HM.out.keep⟩
  · have h1 : (t != h.G) = true := by simpa using h0
    have HR : Hid (r = 12) := by rw [HV.out, if_neg h0]; exact rfl
    clear h0 HV
    go_wp2
    go_ret
    exact ⟨by rw [HR.out]; try rfl, HM.out.keep⟩
end
section
variable (w : World) (h : Hh) (hh : Hok w h) (a : Option Addr) (n c : Nat) (K : List Hh) (hA : St.At 38 he w a n K) (hk : ∀ x ∈ K, Hok w x) (hn : n ≤ 1000000)
include hh hA hk hn
set_option maxRecDepth 100000 in
set_option maxHeartbeats 4000000 in
theorem xunknown_any : Calls Tryz.prog 36 #[.agg (he h).toArray, .slice a n c] w fun e w' => ∃ v, e = .returned v ∧ New w w' v (unk K h.l) := by
  have HP : Hid (At w h.a h.n h.l) := hh.1
  have Hn : Hid (h.n ≤ 1000000) := hh.2.1
  have HC : Hid (∀ w' y, Keep (fun _ => False) w w' → y.length = 32 → Calls Tryz.prog 74 #[idv y, .slice a n c] w' fun e w'' => e = .returned (.int .i64 (St.idx (hits y) K)) ∧ Keep (fun _ => False) w' w'') := fun w' y k hy =>
    xfind_any w' y hy a n c K (hA.calm k) (fun x hx => (hk x hx).calm k) hn
  have HM : Hid (M (fun _ => False) w _ [blk w.heap.size (.cells (he h).toArray 30), ids (.slice none 0 0) []]) := ((M.start _ w).alloc (.cells (he h).toArray 30) rfl).nilI
  have g0 : ((w.alloc (.cells (he h).toArray 30))).cell? ⟨w.heap.size, 0, none⟩ = some (.slice h.a h.n h.c) := HM.out.cell 0 rfl 0 rfl
  have Hcell : Hid ((he h).toArray[0]? = some (.slice h.a h.n h.c)) := (rfl : _ = _)
  obtain ⟨pa, e1⟩ : ∃ p, h.a = p := ⟨_, rfl⟩
  obtain ⟨pn, e2⟩ : ∃ p, h.n = p := ⟨_, rfl⟩
  obtain ⟨pcap, e3⟩ : ∃ p, h.c = p := ⟨_, rfl⟩
  rw [e1, e2, e3] at g0 Hcell
  rw [e1, e2] at HP
  rw [e2] at Hn
  generalize h.l = L at HP ⊢
  generalize (he h).toArray = X at HM g0 Hcell ⊢
  clear hh hA hk hn e1 e2 e3
  go_enter Tryz.func36, Tryz.ntmps36
  go_wp2
  go_loopw [5, 6] (fun s5 i wr => ∃ (k : Nat) (v2 : Value), k ≤ pn ∧ i = .int .i64 k ∧ s5 = v2 ∧ M (fun _ => False) w wr [blk w.heap.size (.cells X 30), ids v2 (unk K (L.take k))]) (fun _ i _ => pn - (intOf i).toNat)
  case atStart => exact ⟨0, _, Nat.zero_le _, rfl, rfl, HM.out⟩
  case round =>
    obtain ⟨k, v2, hkn, rfl, hv2, hM⟩ := hrel
    replace hv2 := hv2.symm
    subst hv2
    have HM : Hid _ := hM
    have g0 := HM.out.cell 0 rfl 0 Hcell.out
    clear hM
    have hpn : pn ≤ 1000000 := Hn.out
    by_cases hlt : k < pn
    · obtain ⟨y, hy⟩ : ∃ y, L[k]? = some y := ⟨_, List.getElem?_eq_getElem (by rw [HP.out.len]; exact hlt)⟩
      obtain ⟨b1, o1, rfl, hb1, hr1⟩ : ∃ b off, pa = some ⟨b, off, none⟩ ∧ b < w.heap.size ∧ ∀ i x, L[i]? = some x → w.rangeAt b (off + i * 32) (x.map bv) := by rcases HP.out.lay with e | e; omega; exact e
      have R0 : Hid (w.rangeAt b1 (o1 + k * 32) (y.map bv)) := hr1 k y hy
      have HB1 : Hid (b1 < w.heap.size) := hb1
      have Ly : Hid (y.length = 32) := HP.out.size y (List.mem_of_getElem? hy)
      have Hl2 : Hid ((unk K (L.take k)).length ≤ 1000000) := Nat.le_trans (unk_le _ _) (by rw [List.length_take]; have := Hn.out; omega)
      have E2 : Hid (unk K (L.take (k + 1)) = unk K (L.take k) ++ (if (look K y).isNone = true then [y] else [])) := by show _ = _; rw [take_snoc hy, unk_snoc]
      have HI := idx_look K y
      obtain ⟨v, hv⟩ : ∃ v, St.idx (hits y) K = v := ⟨_, rfl⟩
      rw [hv] at HI
      have HC1 : Hid (∀ w', Keep (fun _ => False) w w' → Calls Tryz.prog 74 #[idv y, .slice a n c] w' fun e w'' => e = .returned (.int .i64 v) ∧ Keep (fun _ => False) w' w'') := fun w' k => by rw [← hv]; exact HC.out w' y k Ly.out
      clear hr1 hy hb1 hv
      cases hlk : look K y with
      | none =>
        rw [hlk] at HI E2
        have E2 : Hid (unk K (L.take (k + 1)) = unk K (L.take k) ++ [y]) := (by have := E2.out; simpa using this : unk K (L.take (k + 1)) = unk K (L.take k) ++ [y])
        have h1 : v < 0 := HI.1.2 rfl
        clear hlk HI
        go_wp2_with (first | ((with_reducible refine at_load 28 ?_); refine Ids.wl_load rfl rfl rfl Ly.out (HM.out.keep.range HB1.out (fun h => h) R0.out) ?_; simp only [Act.put, List.setIfInBounds_toArray, List.set_cons_zero, List.set_cons_succ]) | (go_at_call 74; refine (HC1.out _ HM.out.keep).mono ?_; rintro e w2 ⟨rfl, k2⟩; have HM : Hid _ := HM.out.calm k2; have g0 := HM.out.cell 0 rfl 0 Hcell.out; clear k2) | (refine Ids.wl_build rfl rfl Ly.out rfl ?_; have HM : Hid _ := HM.out.alloc (.cells (y.map bv).toArray 28) (by first | rfl | simp only [World.size_alloc]); simp only [Act.put, List.setIfInBounds_toArray, List.set_cons_zero, List.set_cons_succ]) | (refine Ids.wl_app1 rfl rfl rfl (HM.out.get 1 rfl) rfl Ly.out (heap_alloc_new _ _) Hl2.out ?_; intro v3 w3 h1 k1 h3; have HM : Hid _ := HM.out.appI 1 rfl h1 k1 h3; clear h1 k1 h3; simp only [Act.put, List.setIfInBounds_toArray, List.set_cons_zero, List.set_cons_succ]))
        go_roundw
        case rel => exact ⟨k + 1, _, by omega, rfl, rfl, by rw [E2.out]; exact HM.out.take 2⟩
        case measure => simp [intOf]; omega
      | some x =>
        rw [hlk] at HI E2
        have E2 : Hid (unk K (L.take (k + 1)) = unk K (L.take k)) := (by have := E2.out; simpa using this : unk K (L.take (k + 1)) = unk K (L.take k))
        have h1 : ¬ v < 0 := fun h => by have := HI.1.1 h; cases this
        clear hlk HI
        go_wp2_with (first | ((with_reducible refine at_load 28 ?_); refine Ids.wl_load rfl rfl rfl Ly.out (HM.out.keep.range HB1.out (fun h => h) R0.out) ?_; simp only [Act.put, List.setIfInBounds_toArray, List.set_cons_zero, List.set_cons_succ]) | (go_at_call 74; refine (HC1.out _ HM.out.keep).mono ?_; rintro e w2 ⟨rfl, k2⟩; have HM : Hid _ := HM.out.calm k2; have g0 := HM.out.cell 0 rfl 0 Hcell.out; clear k2))
        go_roundw
        case rel => exact ⟨k + 1, _, by omega, rfl, rfl, by rw [E2.out]; exact HM.out⟩
        case measure => simp [intOf]; omega
    · obtain rfl : k = pn := by omega
      have e : L.take k = L := List.take_of_length_le (by rw [HP.out.len]; exact Nat.le_refl _)
      rw [e] at HM
      go_wp2
      go_ret
      exact ⟨_, rfl, new_of HM.out 1 rfl⟩
end
end Ru
end Go.Proofs.YtdpkklinpbmkfaaGreatDoor
