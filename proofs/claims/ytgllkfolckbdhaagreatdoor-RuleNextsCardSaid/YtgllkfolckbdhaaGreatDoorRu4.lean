/-
  rule.Unknown, rule.Verdict, petrelref15.Unknown, petrelref15.Verdict.
-/
import Derived.Test.YtgllkfolckbdhaaGreatDoorRu3
set_option linter.unusedVariables false
set_option linter.unusedSimpArgs false
namespace Go.Proofs.YtgllkfolckbdhaaGreatDoor
open Go.RowKit
namespace Ru
open Oct Ids Gn Hd
open Mem (M It blk ids rows)

theorem new_of {w w' : World} {it : List It} {v : Value} {els : List (List UInt8)} (h : M (fun _ => False) w w' it) (i : Nat) (hi : it[i]? = some (ids v els)) : New w w' v els :=
  ⟨h.get i hi, h.keep, fun k hk => (h.rng i _ hi k hk).1.resolve_right (fun h => h)⟩
/-- May it be accepted? -/
def vrd (h : Hh) (K : List Hh) : Int := if hck h = 0 then (if (unk K h.l).length = 0 then (if hgt (kn K h.l) = h.G then 0 else 12) else 11) else hck h
section
variable (w : World) (hF : Sha.TabF w) (hKt : Sha.TabK w) (h : Hh) (hh : Hok w h) (a : Option Addr) (n c : Nat) (K : List Hh) (hA : St.At 38 he w a n K) (hk : ∀ x ∈ K, Hok w x) (hn : n ≤ 1000000)
include hF hKt hh hA hk hn
set_option maxRecDepth 100000 in
set_option maxHeartbeats 2000000 in
theorem verdict_any : Calls Tryz.prog 26 #[.agg (he h).toArray, .slice a n c] w fun e w' => e = .returned (.int .i64 (vrd h K)) ∧ Keep (fun _ => False) w w' := by
  have HS : Hid (∀ w', Keep (fun _ => False) w w' → Calls Tryz.prog 53 #[.agg (he h).toArray, .slice a n c] w' fun e w'' => ∃ v1 v2, e = .returned (.tuple #[v1, v2]) ∧ M (fun _ => False) w' w'' [rows 28 38 he v1 (kn K h.l), ids v2 (unk K h.l)]) := fun w' k =>
    sorted_any w' (hF.keep k (fun h => h)) (hKt.keep k (fun h => h)) h (hh.calm k) a n c K (hA.calm k) (fun x hx => (hk x hx).calm k) hn
  have HC : Hid (∀ w', Keep (fun _ => False) w w' → Calls Tryz.prog 30 #[.agg (he h).toArray] w' fun e w'' => e = .returned (.int .i64 (hck h)) ∧ Keep (fun _ => False) w' w'') := fun w' k => hcheck w' h (hh.calm k)
  have HM : Hid (M (fun _ => False) w _ [blk w.heap.size (.cells (he h).toArray 28)]) := (M.start _ w).alloc (.cells (he h).toArray 28) rfl
  have Hle : Hid ((kn K h.l).length ≤ 1000000) := Nat.le_trans (kn_le _ _) (by rw [hh.1.len]; exact hh.2.1)
  have HV : Hid (vrd h K = if hck h = 0 then (if (unk K h.l).length = 0 then (if hgt (kn K h.l) = h.G then 0 else 12) else 11) else hck h) := (rfl : _ = _)
  generalize hck h = v at HC HV
  generalize vrd h K = r at HV ⊢
  clear hh hF hKt hA hk hn
  by_cases h0 : v = 0
  case neg =>
    have h1 : (v != 0) = true := by simpa using h0
    have HR : Hid (r = v) := by rw [HV.out, if_neg h0]; exact rfl
    clear h0 HV
    go_enter Tryz.func26, Tryz.ntmps26
    go_wp2_with (first | ((with_reducible refine at_load 28 ?_); refine St.wl_load tyH (by rfl) rfl rfl (HM.out.range 0 rfl) (he_len h) ?_; simp only [Act.put, List.setIfInBounds_toArray, List.set_cons_zero, List.set_cons_succ]) | (go_at_call 30; refine (HC.out _ HM.out.keep).mono ?_; rintro e w1 ⟨rfl, k1⟩; have HM : Hid _ := HM.out.calm k1; clear k1))
    go_ret
    exact ⟨by rw [HR.out]; try rfl, HM.out.keep⟩
  subst h0
  rw [if_pos rfl] at HV
  obtain ⟨q, hq⟩ : ∃ q, (unk K h.l).length = q := ⟨_, rfl⟩
  rw [hq] at HV
  have HQ : Hid ((unk K h.l).length = q) := hq
  clear hq
  by_cases h0 : q = 0
  case neg =>
    have h1 : (0 : Int) < (q : Int) := by omega
    have HR : Hid (r = 11) := by rw [HV.out, if_neg h0]; exact rfl
    clear h0 HV
    go_enter Tryz.func26, Tryz.ntmps26
    go_wp2_with (first | ((with_reducible refine at_load 28 ?_); refine St.wl_load tyH (by rfl) rfl rfl (HM.out.range 0 rfl) (he_len h) ?_; simp only [Act.put, List.setIfInBounds_toArray, List.set_cons_zero, List.set_cons_succ]) | (go_at_call 30; refine (HC.out _ HM.out.keep).mono ?_; rintro e w1 ⟨rfl, k1⟩; have HM : Hid _ := HM.out.calm k1; clear k1) | (go_at_call 53; refine (HS.out _ HM.out.keep).mono ?_; rintro e w2 ⟨v1, v2, rfl, h2⟩; obtain ⟨a2, c2, e2, at2⟩ := (show St.Own 28 38 he w2 v1 (kn K h.l) from h2.get 0 rfl).any; obtain ⟨a3, c3, e3, at3, _⟩ := (show Own w2 v2 (unk K h.l) from h2.get 1 rfl).at; rw [HQ.out] at e3; subst e2 e3; have HM : Hid (M (fun _ => False) w w2 [blk w.heap.size (.cells (he h).toArray 28), rows 28 38 he (.slice a2 (kn K h.l).length c2) (kn K h.l)]) := (HM.out.then h2).take 2; clear h2 at2 at3))
    go_ret
    exact ⟨by rw [HR.out]; try rfl, HM.out.keep⟩
  subst h0
  rw [if_pos rfl] at HV
  go_enter Tryz.func26, Tryz.ntmps26
  go_wp2_with (first | ((with_reducible refine at_load 28 ?_); refine St.wl_load tyH (by rfl) rfl rfl (HM.out.range 0 rfl) (he_len h) ?_; simp only [Act.put, List.setIfInBounds_toArray, List.set_cons_zero, List.set_cons_succ]) | (go_at_call 30; refine (HC.out _ HM.out.keep).mono ?_; rintro e w1 ⟨rfl, k1⟩; have HM : Hid _ := HM.out.calm k1; clear k1) | (go_at_call 53; refine (HS.out _ HM.out.keep).mono ?_; rintro e w2 ⟨v1, v2, rfl, h2⟩; obtain ⟨a2, c2, e2, at2⟩ := (show St.Own 28 38 he w2 v1 (kn K h.l) from h2.get 0 rfl).any; obtain ⟨a3, c3, e3, at3, _⟩ := (show Own w2 v2 (unk K h.l) from h2.get 1 rfl).at; rw [HQ.out] at e3; subst e2 e3; have HM : Hid (M (fun _ => False) w w2 [blk w.heap.size (.cells (he h).toArray 28), rows 28 38 he (.slice a2 (kn K h.l).length c2) (kn K h.l)]) := (HM.out.then h2).take 2; clear h2 at2 at3))
  have HM : Hid _ := HM.out.drew
  refine Txt.wp_region_text (fun w' => w'.cell? ⟨w.heap.size, 1, none⟩ = some (.int .i64 h.G)) [0, 4, 0, 2, 0, 0] (by kernel_rfl) (by kernel_rfl) (HM.out.cell 0 rfl 1 rfl) ?_
  (repeat (first | (refine Txt.tl_pure (v := ?_) (by rfl) ?_ ?_; rotate_left; (focus (intro _; go_simp; try with_reducible rfl)); simp only [Act.put, List.setIfInBounds_toArray, List.set_cons_zero, List.set_cons_succ]) | (refine Txt.tl_load (v := ?_) (by rfl) (by rfl) (by rfl) (by kernel_rfl) ?_ ?_; rotate_left; (focus assumption); simp only [Act.put, List.setIfInBounds_toArray, List.set_cons_zero, List.set_cons_succ]) | (refine Txt.tl_loadS (v := ?_) (by rfl) (by rfl) (by rfl) (by kernel_rfl) ?_ ?_; rotate_left; (focus (exact fun _ h => h)); simp only [Act.put, List.setIfInBounds_toArray, List.set_cons_zero, List.set_cons_succ])))
  refine Txt.tl_call Tryz.func29 (by kernel_rfl) (by kernel_rfl) (by rfl) (by rfl) (by rfl) (vs := #[.slice a2 (kn K h.l).length c2]) (height_any _ a2 _ c2 _ (show St.Own _ _ _ _ _ _ from HM.out.get 1 rfl).slice.2 Hle.out) ?_
  rintro e w5 ⟨rfl, k5⟩
  have HM : Hid _ := HM.out.calm k5
  clear k5
  have cx : w5.cell? ⟨w.heap.size, 1, none⟩ = some (.int .i64 h.G) := HM.out.cell 0 rfl 1 rfl
  refine ⟨_, rfl, cx, ?_⟩
  simp only [Act.put, List.setIfInBounds_toArray, List.set_cons_zero, List.set_cons_succ]
  (repeat (first | (refine Txt.tl_pure (v := ?_) (by rfl) ?_ ?_; rotate_left; (focus (intro _; go_simp; try with_reducible rfl)); simp only [Act.put, List.setIfInBounds_toArray, List.set_cons_zero, List.set_cons_succ]) | (refine Txt.tl_load (v := ?_) (by rfl) (by rfl) (by rfl) (by kernel_rfl) ?_ ?_; rotate_left; (focus assumption); simp only [Act.put, List.setIfInBounds_toArray, List.set_cons_zero, List.set_cons_succ]) | (refine Txt.tl_loadS (v := ?_) (by rfl) (by rfl) (by rfl) (by kernel_rfl) ?_ ?_; rotate_left; (focus (exact fun _ h => h)); simp only [Act.put, List.setIfInBounds_toArray, List.set_cons_zero, List.set_cons_succ])))
  refine Txt.tl_loadS (v := .int .i64 h.G) (ty := 3) (by rfl) (by rfl) (by rfl) (by kernel_rfl) (fun _ h => h) ?_
  simp only [Act.put, List.setIfInBounds_toArray, List.set_cons_zero, List.set_cons_succ]
  (repeat (first | (refine Txt.tl_pure (v := ?_) (by rfl) ?_ ?_; rotate_left; (focus (intro _; go_simp; try with_reducible rfl)); simp only [Act.put, List.setIfInBounds_toArray, List.set_cons_zero, List.set_cons_succ]) | (refine Txt.tl_load (v := ?_) (by rfl) (by rfl) (by rfl) (by kernel_rfl) ?_ ?_; rotate_left; (focus assumption); simp only [Act.put, List.setIfInBounds_toArray, List.set_cons_zero, List.set_cons_succ]) | (refine Txt.tl_loadS (v := ?_) (by rfl) (by rfl) (by rfl) (by kernel_rfl) ?_ ?_; rotate_left; (focus (exact fun _ h => h)); simp only [Act.put, List.setIfInBounds_toArray, List.set_cons_zero, List.set_cons_succ])))
  refine Txt.tl_nil ?_
  generalize hgt (kn K h.l) = t at HV ⊢
  by_cases h0 : t = h.G
  · have h1 : (t != h.G) = false := by simpa using h0
    have HR : Hid (r = 0) := by rw [HV.out, if_pos h0]; exact rfl
    clear h0 HV
    go_wp2
    go_ret
    exact ⟨by rw [HR.out]; try rfl, HM.out.keep⟩
  · have h1 : (t != h.G) = true := by simpa using h0
    have HR : Hid (r = 12) := by rw [HV.out, if_neg h0]; exact rfl
    clear h0 HV
    go_wp2
    go_ret
    exact ⟨by rw [HR.out]; try rfl, HM.out.keep⟩
end
end Ru
end Go.Proofs.YtgllkfolckbdhaaGreatDoor
