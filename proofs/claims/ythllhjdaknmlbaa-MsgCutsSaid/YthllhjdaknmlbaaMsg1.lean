/-
  msg's and petrelref09's kinds.
-/
import Derived.Test.YthllhjdaknmlbaaGRd
set_option linter.unusedVariables false
set_option linter.unusedSimpArgs false
namespace Go.Proofs.Ythllhjdaknmlbaa
open Go.RowKit
namespace Ms
open Oct

/-- What a message of a kind holds: ids (1), a body (2), nothing. -/
def knd (k : Int) : Int := if k = 3 ∨ k = 8 then 2 else if 1 ≤ k ∧ k ≤ 7 then 1 else 0
theorem knd_off {k : Int} (h : k < 1 ∨ 8 < k) : knd k = 0 := by unfold knd; rw [if_neg (by omega), if_neg (by omega)]
set_option maxRecDepth 100000 in
theorem has_any (w : World) (k : Int) : Calls Try.prog 11 #[.int .i64 k] w fun e w' => e = .returned (.int .i64 (knd k)) ∧ w' = w := by
  rcases (by omega : k = 1 ∨ k = 2 ∨ k = 3 ∨ k = 4 ∨ k = 5 ∨ k = 6 ∨ k = 7 ∨ k = 8 ∨ (k < 1 ∨ 8 < k)) with rfl | rfl | rfl | rfl | rfl | rfl | rfl | rfl | h
  case inr.inr.inr.inr.inr.inr.inr.inr =>
    rw [knd_off h]
    have e1 : (k == 1) = false := by rw [beq_eq_false_iff_ne]; omega
    have e2 : (k == 2) = false := by rw [beq_eq_false_iff_ne]; omega
    have e3 : (k == 3) = false := by rw [beq_eq_false_iff_ne]; omega
    have e4 : (k == 4) = false := by rw [beq_eq_false_iff_ne]; omega
    have e5 : (k == 5) = false := by rw [beq_eq_false_iff_ne]; omega
    have e6 : (k == 6) = false := by rw [beq_eq_false_iff_ne]; omega
    have e7 : (k == 7) = false := by rw [beq_eq_false_iff_ne]; omega
    have e8 : (k == 8) = false := by rw [beq_eq_false_iff_ne]; omega
    clear h
    go_enter Try.func11, Try.ntmps11
    go_wp2
    go_ret
    exact ⟨rfl, rfl⟩
  all_goals
    go_enter Try.func11, Try.ntmps11
    go_wp2
    go_ret
    exact ⟨rfl, rfl⟩
set_option maxRecDepth 100000 in
theorem kind_any (w : World) (k : Int) : Calls Try.prog 14 #[.int .i64 k] w fun e w' => e = .returned (.int .i64 (knd k)) ∧ w' = w := by
  rcases (by omega : k = 1 ∨ k = 2 ∨ k = 3 ∨ k = 4 ∨ k = 5 ∨ k = 6 ∨ k = 7 ∨ k = 8 ∨ (k < 1 ∨ 8 < k)) with rfl | rfl | rfl | rfl | rfl | rfl | rfl | rfl | h
  case inr.inr.inr.inr.inr.inr.inr.inr =>
    rw [knd_off h]
    have e1 : (k == 1) = false := by rw [beq_eq_false_iff_ne]; omega
    have e2 : (k == 2) = false := by rw [beq_eq_false_iff_ne]; omega
    have e3 : (k == 3) = false := by rw [beq_eq_false_iff_ne]; omega
    have e4 : (k == 4) = false := by rw [beq_eq_false_iff_ne]; omega
    have e5 : (k == 5) = false := by rw [beq_eq_false_iff_ne]; omega
    have e6 : (k == 6) = false := by rw [beq_eq_false_iff_ne]; omega
    have e7 : (k == 7) = false := by rw [beq_eq_false_iff_ne]; omega
    have e8 : (k == 8) = false := by rw [beq_eq_false_iff_ne]; omega
    clear h
    go_enter Try.func14, Try.ntmps14
    go_wp2
    go_ret
    exact ⟨rfl, rfl⟩
  all_goals
    go_enter Try.func14, Try.ntmps14
    go_wp2
    go_ret
    exact ⟨rfl, rfl⟩
/-- The most bytes of a body. -/
def mst (k : Int) : Int := if k = 3 then 256 else 512
set_option maxRecDepth 100000 in
theorem most_any (w : World) (k : Int) : Calls Try.prog 18 #[.int .i64 k] w fun e w' => e = .returned (.int .i64 (mst k)) ∧ w' = w := by
  by_cases h : k = 3
  · subst h
    go_enter Try.func18, Try.ntmps18
    go_wp2
    go_ret
    exact ⟨rfl, rfl⟩
  · have e : mst k = 512 := by unfold mst; rw [if_neg h]
    rw [e]
    have e3 : (k == 3) = false := by simpa using h
    clear h e
    go_enter Try.func18, Try.ntmps18
    go_wp2
    go_ret
    exact ⟨rfl, rfl⟩

set_option maxRecDepth 100000 in
theorem long_s (w : World) (B : ByteArray) (n : Int) (v : Bool) (hv : decide (n < (B.size : Int)) = v) : Calls Try.prog 16 #[.string B, .int .i64 n] w fun e w' => e = .returned (.bool v) ∧ w' = w := by
  subst hv
  go_enter Try.func16, Try.ntmps16
  go_wp2
  go_ret
  exact ⟨by simp, rfl⟩
theorem knd_or (k : Int) : knd k = 0 ∨ knd k = 1 ∨ knd k = 2 := by
  unfold knd
  split
  · exact .inr (.inr rfl)
  · split
    · exact .inr (.inl rfl)
    · exact .inl rfl
theorem mst_le (k : Int) : 256 ≤ mst k ∧ mst k ≤ 512 := by unfold mst; split <;> omega
/-- What 'Check' answers. -/
def chk (K : Int) (n : Nat) (B : ByteArray) : Int :=
  if knd K = 0 then 10 else if (knd K = 1 ∧ B.size ≠ 0) ∨ (knd K = 2 ∧ n ≠ 0) then 4 else if 16 < n then 6 else if mst K < (B.size : Int) then 3 else if knd K = 2 ∧ B.size = 0 then 4 else 0
section
variable {K : Int} {n : Nat} {B : ByteArray}
theorem chk_0 (hk : knd K = 0) : chk K n B = 10 := by simp [chk, hk]
theorem chk_1b (hk : knd K = 1) (hb : B.size ≠ 0) : chk K n B = 4 := by simp [chk, hk, hb]
theorem chk_1n (hk : knd K = 1) (hb : B.size = 0) (hn : 16 < n) : chk K n B = 6 := by simp [chk, hk, hb, hn]
theorem chk_1 (hk : knd K = 1) (hb : B.size = 0) (hn : n ≤ 16) : chk K n B = 0 := by have := mst_le K; simp [chk, hk, hb]; omega
theorem chk_2n (hk : knd K = 2) (hn : n ≠ 0) : chk K n B = 4 := by simp [chk, hk, hn]
theorem chk_2l (hk : knd K = 2) (hn : n = 0) (hb : mst K < (B.size : Int)) : chk K n B = 3 := by simp [chk, hk, hn, hb]
theorem chk_2z (hk : knd K = 2) (hn : n = 0) (hb : B.size = 0) : chk K n B = 4 := by have := mst_le K; simp [chk, hk, hn, hb]; omega
theorem chk_2 (hk : knd K = 2) (hn : n = 0) (hb : B.size ≠ 0) (hb2 : ¬ mst K < (B.size : Int)) : chk K n B = 0 := by simp [chk, hk, hn, hb, hb2]
end
set_option maxRecDepth 100000 in
set_option maxHeartbeats 1000000 in
theorem check_any (w : World) (K : Int) (a : Option Addr) (n c : Nat) (B : ByteArray) : Calls Try.prog 8 #[.agg #[.int .i64 K, .slice a n c, .string B]] w fun e w' => e = .returned (.int .i64 (chk K n B)) ∧ Keep (fun _ => False) w w' := by
  rcases knd_or K with hk | hk | hk
  · rw [chk_0 hk]
    have Hk : Hid _ := hk
    clear hk
    go_enter Try.func8, Try.ntmps8
    go_wp2_with (first | (go_at_call 11; refine (has_any _ _).mono ?_; rw [Hk.out]; rintro e w1 ⟨rfl, rfl⟩) | go_in)
    go_ret
    exact ⟨rfl, (Keep.refl _ _).alloc _⟩
  · by_cases hb : B.size = 0
    · by_cases hn : n ≤ 16
      · rw [chk_1 hk hb hn]
        have Hm := mst_le K
        have Hk : Hid _ := hk
        clear hk
        go_enter Try.func8, Try.ntmps8
        go_wp2_with (first | (go_at_call 11; refine (has_any _ _).mono ?_; rw [Hk.out]; rintro e w1 ⟨rfl, rfl⟩) | go_in)
        have hcB : (w.alloc (Obj.cells #[Value.int IntKind.i64 K, Value.slice a n c, Value.string B] 28)).cell? ⟨w.heap.size, 2, none⟩ = some (.string B) := by rw [cell_of (heap_alloc_new _ _)]; rfl
        refine Txt.wp_region_text (fun w' => w'.cell? ⟨w.heap.size, 2, none⟩ = some (.string B)) [0, 2, 0, 1, 4, 4, 0] (by kernel_rfl) (by kernel_rfl) hcB ?_
        repeat (first
          | (refine Txt.tl_pure (v := ?_) (by rfl) ?_ ?_; rotate_left; (focus (intro _; go_simp; try with_reducible rfl)); simp only [Act.put, List.setIfInBounds_toArray, List.set_cons_zero, List.set_cons_succ])
          | (refine Txt.tl_skip (by rfl) trivial ?_; simp only [Act.put, List.setIfInBounds_toArray, List.set_cons_zero, List.set_cons_succ])
          | (refine Txt.tl_load (v := ?_) (by rfl) (by rfl) (by rfl) (by kernel_rfl) ?_ ?_; rotate_left; (focus (first | assumption | (go_simp; done) | (go_simp; with_reducible rfl))); simp only [Act.put, List.setIfInBounds_toArray, List.set_cons_zero, List.set_cons_succ])
          | (refine Txt.tl_alloc (by rfl) ?_; go_simp; refine ⟨by (first | exact Txt.Le.alloc_drew _ _ | exact Txt.Le.alloc _ _), ?_⟩))
        refine Txt.tl_loadS (v := .string B) (by rfl) (by rfl) (by rfl) (by kernel_rfl) (fun _ h => h) ?_
        simp only [Act.put, List.setIfInBounds_toArray, List.set_cons_zero, List.set_cons_succ]
        repeat (first
          | (refine Txt.tl_pure (v := ?_) (by rfl) ?_ ?_; rotate_left; (focus (intro _; go_simp; try with_reducible rfl)); simp only [Act.put, List.setIfInBounds_toArray, List.set_cons_zero, List.set_cons_succ])
          | (refine Txt.tl_skip (by rfl) trivial ?_; simp only [Act.put, List.setIfInBounds_toArray, List.set_cons_zero, List.set_cons_succ])
          | (refine Txt.tl_load (v := ?_) (by rfl) (by rfl) (by rfl) (by kernel_rfl) ?_ ?_; rotate_left; (focus (first | assumption | (go_simp; done) | (go_simp; with_reducible rfl))); simp only [Act.put, List.setIfInBounds_toArray, List.set_cons_zero, List.set_cons_succ])
          | (refine Txt.tl_alloc (by rfl) ?_; go_simp; refine ⟨by (first | exact Txt.Le.alloc_drew _ _ | exact Txt.Le.alloc _ _), ?_⟩))
        refine Txt.tl_loud (by rfl) ?_
        go_simp
        refine (most_any _ _).mono ?_
        rintro e w1 ⟨rfl, rfl⟩
        dsimp only
        refine ⟨hcB, ?_⟩
        repeat (first
          | (refine Txt.tl_pure (v := ?_) (by rfl) ?_ ?_; rotate_left; (focus (intro _; go_simp; try with_reducible rfl)); simp only [Act.put, List.setIfInBounds_toArray, List.set_cons_zero, List.set_cons_succ])
          | (refine Txt.tl_skip (by rfl) trivial ?_; simp only [Act.put, List.setIfInBounds_toArray, List.set_cons_zero, List.set_cons_succ])
          | (refine Txt.tl_load (v := ?_) (by rfl) (by rfl) (by rfl) (by kernel_rfl) ?_ ?_; rotate_left; (focus (first | assumption | (go_simp; done) | (go_simp; with_reducible rfl))); simp only [Act.put, List.setIfInBounds_toArray, List.set_cons_zero, List.set_cons_succ])
          | (refine Txt.tl_alloc (by rfl) ?_; go_simp; refine ⟨by (first | exact Txt.Le.alloc_drew _ _ | exact Txt.Le.alloc _ _), ?_⟩))
        refine Txt.tl_loud (by rfl) ?_
        go_simp
        refine (long_s _ _ _ _ rfl).mono ?_
        rintro e w1 ⟨rfl, rfl⟩
        dsimp only
        refine ⟨hcB, ?_⟩
        repeat (first
          | (refine Txt.tl_pure (v := ?_) (by rfl) ?_ ?_; rotate_left; (focus (intro _; go_simp; try with_reducible rfl)); simp only [Act.put, List.setIfInBounds_toArray, List.set_cons_zero, List.set_cons_succ])
          | (refine Txt.tl_skip (by rfl) trivial ?_; simp only [Act.put, List.setIfInBounds_toArray, List.set_cons_zero, List.set_cons_succ])
          | (refine Txt.tl_load (v := ?_) (by rfl) (by rfl) (by rfl) (by kernel_rfl) ?_ ?_; rotate_left; (focus (first | assumption | (go_simp; done) | (go_simp; with_reducible rfl))); simp only [Act.put, List.setIfInBounds_toArray, List.set_cons_zero, List.set_cons_succ])
          | (refine Txt.tl_alloc (by rfl) ?_; go_simp; refine ⟨by (first | exact Txt.Le.alloc_drew _ _ | exact Txt.Le.alloc _ _), ?_⟩))
        refine Txt.tl_nil ?_
        go_wp2_with (first | (go_at_call 11; refine (has_any _ _).mono ?_; rw [Hk.out]; rintro e w1 ⟨rfl, rfl⟩) | go_in)
        go_ret
        exact ⟨rfl, ((Keep.refl _ _).alloc _).drew⟩
      · rw [chk_1n hk hb (by omega)]
        have Hk : Hid _ := hk
        clear hk
        go_enter Try.func8, Try.ntmps8
        go_wp2_with (first | (go_at_call 11; refine (has_any _ _).mono ?_; rw [Hk.out]; rintro e w1 ⟨rfl, rfl⟩) | go_in)
        go_ret
        exact ⟨rfl, (Keep.refl _ _).alloc _⟩
    · rw [chk_1b hk hb]
      have Hk : Hid _ := hk
      clear hk
      go_enter Try.func8, Try.ntmps8
      go_wp2_with (first | (go_at_call 11; refine (has_any _ _).mono ?_; rw [Hk.out]; rintro e w1 ⟨rfl, rfl⟩) | go_in)
      go_ret
      exact ⟨rfl, (Keep.refl _ _).alloc _⟩
  · by_cases hn : n = 0
    · by_cases hb : mst K < (B.size : Int)
      · rw [chk_2l hk hn hb]
        have Hk : Hid _ := hk
        clear hk
        subst hn
        go_enter Try.func8, Try.ntmps8
        go_wp2_with (first | (go_at_call 11; refine (has_any _ _).mono ?_; rw [Hk.out]; rintro e w1 ⟨rfl, rfl⟩) | go_in)
        have hcB : (w.alloc (Obj.cells #[Value.int IntKind.i64 K, Value.slice a 0 c, Value.string B] 28)).cell? ⟨w.heap.size, 2, none⟩ = some (.string B) := by rw [cell_of (heap_alloc_new _ _)]; rfl
        refine Txt.wp_region_text (fun w' => w'.cell? ⟨w.heap.size, 2, none⟩ = some (.string B)) [0, 2, 0, 1, 4, 4, 0] (by kernel_rfl) (by kernel_rfl) hcB ?_
        repeat (first
          | (refine Txt.tl_pure (v := ?_) (by rfl) ?_ ?_; rotate_left; (focus (intro _; go_simp; try with_reducible rfl)); simp only [Act.put, List.setIfInBounds_toArray, List.set_cons_zero, List.set_cons_succ])
          | (refine Txt.tl_skip (by rfl) trivial ?_; simp only [Act.put, List.setIfInBounds_toArray, List.set_cons_zero, List.set_cons_succ])
          | (refine Txt.tl_load (v := ?_) (by rfl) (by rfl) (by rfl) (by kernel_rfl) ?_ ?_; rotate_left; (focus (first | assumption | (go_simp; done) | (go_simp; with_reducible rfl))); simp only [Act.put, List.setIfInBounds_toArray, List.set_cons_zero, List.set_cons_succ])
          | (refine Txt.tl_alloc (by rfl) ?_; go_simp; refine ⟨by (first | exact Txt.Le.alloc_drew _ _ | exact Txt.Le.alloc _ _), ?_⟩))
        refine Txt.tl_loadS (v := .string B) (by rfl) (by rfl) (by rfl) (by kernel_rfl) (fun _ h => h) ?_
        simp only [Act.put, List.setIfInBounds_toArray, List.set_cons_zero, List.set_cons_succ]
        repeat (first
          | (refine Txt.tl_pure (v := ?_) (by rfl) ?_ ?_; rotate_left; (focus (intro _; go_simp; try with_reducible rfl)); simp only [Act.put, List.setIfInBounds_toArray, List.set_cons_zero, List.set_cons_succ])
          | (refine Txt.tl_skip (by rfl) trivial ?_; simp only [Act.put, List.setIfInBounds_toArray, List.set_cons_zero, List.set_cons_succ])
          | (refine Txt.tl_load (v := ?_) (by rfl) (by rfl) (by rfl) (by kernel_rfl) ?_ ?_; rotate_left; (focus (first | assumption | (go_simp; done) | (go_simp; with_reducible rfl))); simp only [Act.put, List.setIfInBounds_toArray, List.set_cons_zero, List.set_cons_succ])
          | (refine Txt.tl_alloc (by rfl) ?_; go_simp; refine ⟨by (first | exact Txt.Le.alloc_drew _ _ | exact Txt.Le.alloc _ _), ?_⟩))
        refine Txt.tl_loud (by rfl) ?_
        go_simp
        refine (most_any _ _).mono ?_
        rintro e w1 ⟨rfl, rfl⟩
        dsimp only
        refine ⟨hcB, ?_⟩
        repeat (first
          | (refine Txt.tl_pure (v := ?_) (by rfl) ?_ ?_; rotate_left; (focus (intro _; go_simp; try with_reducible rfl)); simp only [Act.put, List.setIfInBounds_toArray, List.set_cons_zero, List.set_cons_succ])
          | (refine Txt.tl_skip (by rfl) trivial ?_; simp only [Act.put, List.setIfInBounds_toArray, List.set_cons_zero, List.set_cons_succ])
          | (refine Txt.tl_load (v := ?_) (by rfl) (by rfl) (by rfl) (by kernel_rfl) ?_ ?_; rotate_left; (focus (first | assumption | (go_simp; done) | (go_simp; with_reducible rfl))); simp only [Act.put, List.setIfInBounds_toArray, List.set_cons_zero, List.set_cons_succ])
          | (refine Txt.tl_alloc (by rfl) ?_; go_simp; refine ⟨by (first | exact Txt.Le.alloc_drew _ _ | exact Txt.Le.alloc _ _), ?_⟩))
        refine Txt.tl_loud (by rfl) ?_
        go_simp
        refine (long_s _ _ _ _ rfl).mono ?_
        rintro e w1 ⟨rfl, rfl⟩
        dsimp only
        refine ⟨hcB, ?_⟩
        repeat (first
          | (refine Txt.tl_pure (v := ?_) (by rfl) ?_ ?_; rotate_left; (focus (intro _; go_simp; try with_reducible rfl)); simp only [Act.put, List.setIfInBounds_toArray, List.set_cons_zero, List.set_cons_succ])
          | (refine Txt.tl_skip (by rfl) trivial ?_; simp only [Act.put, List.setIfInBounds_toArray, List.set_cons_zero, List.set_cons_succ])
          | (refine Txt.tl_load (v := ?_) (by rfl) (by rfl) (by rfl) (by kernel_rfl) ?_ ?_; rotate_left; (focus (first | assumption | (go_simp; done) | (go_simp; with_reducible rfl))); simp only [Act.put, List.setIfInBounds_toArray, List.set_cons_zero, List.set_cons_succ])
          | (refine Txt.tl_alloc (by rfl) ?_; go_simp; refine ⟨by (first | exact Txt.Le.alloc_drew _ _ | exact Txt.Le.alloc _ _), ?_⟩))
        refine Txt.tl_nil ?_
        go_wp2_with (first | (go_at_call 11; refine (has_any _ _).mono ?_; rw [Hk.out]; rintro e w1 ⟨rfl, rfl⟩) | go_in)
        go_ret
        exact ⟨rfl, ((Keep.refl _ _).alloc _).drew⟩
      · by_cases hz : B.size = 0
        · rw [chk_2z hk hn hz]
          have Hk : Hid _ := hk
          clear hk
          subst hn
          go_enter Try.func8, Try.ntmps8
          go_wp2_with (first | (go_at_call 11; refine (has_any _ _).mono ?_; rw [Hk.out]; rintro e w1 ⟨rfl, rfl⟩) | go_in)
          have hcB : (w.alloc (Obj.cells #[Value.int IntKind.i64 K, Value.slice a 0 c, Value.string B] 28)).cell? ⟨w.heap.size, 2, none⟩ = some (.string B) := by rw [cell_of (heap_alloc_new _ _)]; rfl
          refine Txt.wp_region_text (fun w' => w'.cell? ⟨w.heap.size, 2, none⟩ = some (.string B)) [0, 2, 0, 1, 4, 4, 0] (by kernel_rfl) (by kernel_rfl) hcB ?_
          repeat (first
            | (refine Txt.tl_pure (v := ?_) (by rfl) ?_ ?_; rotate_left; (focus (intro _; go_simp; try with_reducible rfl)); simp only [Act.put, List.setIfInBounds_toArray, List.set_cons_zero, List.set_cons_succ])
            | (refine Txt.tl_skip (by rfl) trivial ?_; simp only [Act.put, List.setIfInBounds_toArray, List.set_cons_zero, List.set_cons_succ])
            | (refine Txt.tl_load (v := ?_) (by rfl) (by rfl) (by rfl) (by kernel_rfl) ?_ ?_; rotate_left; (focus (first | assumption | (go_simp; done) | (go_simp; with_reducible rfl))); simp only [Act.put, List.setIfInBounds_toArray, List.set_cons_zero, List.set_cons_succ])
            | (refine Txt.tl_alloc (by rfl) ?_; go_simp; refine ⟨by (first | exact Txt.Le.alloc_drew _ _ | exact Txt.Le.alloc _ _), ?_⟩))
          refine Txt.tl_loadS (v := .string B) (by rfl) (by rfl) (by rfl) (by kernel_rfl) (fun _ h => h) ?_
          simp only [Act.put, List.setIfInBounds_toArray, List.set_cons_zero, List.set_cons_succ]
          repeat (first
            | (refine Txt.tl_pure (v := ?_) (by rfl) ?_ ?_; rotate_left; (focus (intro _; go_simp; try with_reducible rfl)); simp only [Act.put, List.setIfInBounds_toArray, List.set_cons_zero, List.set_cons_succ])
            | (refine Txt.tl_skip (by rfl) trivial ?_; simp only [Act.put, List.setIfInBounds_toArray, List.set_cons_zero, List.set_cons_succ])
            | (refine Txt.tl_load (v := ?_) (by rfl) (by rfl) (by rfl) (by kernel_rfl) ?_ ?_; rotate_left; (focus (first | assumption | (go_simp; done) | (go_simp; with_reducible rfl))); simp only [Act.put, List.setIfInBounds_toArray, List.set_cons_zero, List.set_cons_succ])
            | (refine Txt.tl_alloc (by rfl) ?_; go_simp; refine ⟨by (first | exact Txt.Le.alloc_drew _ _ | exact Txt.Le.alloc _ _), ?_⟩))
          refine Txt.tl_loud (by rfl) ?_
          go_simp
          refine (most_any _ _).mono ?_
          rintro e w1 ⟨rfl, rfl⟩
          dsimp only
          refine ⟨hcB, ?_⟩
          repeat (first
            | (refine Txt.tl_pure (v := ?_) (by rfl) ?_ ?_; rotate_left; (focus (intro _; go_simp; try with_reducible rfl)); simp only [Act.put, List.setIfInBounds_toArray, List.set_cons_zero, List.set_cons_succ])
            | (refine Txt.tl_skip (by rfl) trivial ?_; simp only [Act.put, List.setIfInBounds_toArray, List.set_cons_zero, List.set_cons_succ])
            | (refine Txt.tl_load (v := ?_) (by rfl) (by rfl) (by rfl) (by kernel_rfl) ?_ ?_; rotate_left; (focus (first | assumption | (go_simp; done) | (go_simp; with_reducible rfl))); simp only [Act.put, List.setIfInBounds_toArray, List.set_cons_zero, List.set_cons_succ])
            | (refine Txt.tl_alloc (by rfl) ?_; go_simp; refine ⟨by (first | exact Txt.Le.alloc_drew _ _ | exact Txt.Le.alloc _ _), ?_⟩))
          refine Txt.tl_loud (by rfl) ?_
          go_simp
          refine (long_s _ _ _ _ rfl).mono ?_
          rintro e w1 ⟨rfl, rfl⟩
          dsimp only
          refine ⟨hcB, ?_⟩
          repeat (first
            | (refine Txt.tl_pure (v := ?_) (by rfl) ?_ ?_; rotate_left; (focus (intro _; go_simp; try with_reducible rfl)); simp only [Act.put, List.setIfInBounds_toArray, List.set_cons_zero, List.set_cons_succ])
            | (refine Txt.tl_skip (by rfl) trivial ?_; simp only [Act.put, List.setIfInBounds_toArray, List.set_cons_zero, List.set_cons_succ])
            | (refine Txt.tl_load (v := ?_) (by rfl) (by rfl) (by rfl) (by kernel_rfl) ?_ ?_; rotate_left; (focus (first | assumption | (go_simp; done) | (go_simp; with_reducible rfl))); simp only [Act.put, List.setIfInBounds_toArray, List.set_cons_zero, List.set_cons_succ])
            | (refine Txt.tl_alloc (by rfl) ?_; go_simp; refine ⟨by (first | exact Txt.Le.alloc_drew _ _ | exact Txt.Le.alloc _ _), ?_⟩))
          refine Txt.tl_nil ?_
          go_wp2_with (first | (go_at_call 11; refine (has_any _ _).mono ?_; rw [Hk.out]; rintro e w1 ⟨rfl, rfl⟩) | go_in)
          go_ret
          exact ⟨rfl, ((Keep.refl _ _).alloc _).drew⟩
        · rw [chk_2 hk hn hz hb]
          have hz2 : 0 < B.size := by omega
          have Hk : Hid _ := hk
          clear hk
          subst hn
          go_enter Try.func8, Try.ntmps8
          go_wp2_with (first | (go_at_call 11; refine (has_any _ _).mono ?_; rw [Hk.out]; rintro e w1 ⟨rfl, rfl⟩) | go_in)
          have hcB : (w.alloc (Obj.cells #[Value.int IntKind.i64 K, Value.slice a 0 c, Value.string B] 28)).cell? ⟨w.heap.size, 2, none⟩ = some (.string B) := by rw [cell_of (heap_alloc_new _ _)]; rfl
          refine Txt.wp_region_text (fun w' => w'.cell? ⟨w.heap.size, 2, none⟩ = some (.string B)) [0, 2, 0, 1, 4, 4, 0] (by kernel_rfl) (by kernel_rfl) hcB ?_
          repeat (first
            | (refine Txt.tl_pure (v := ?_) (by rfl) ?_ ?_; rotate_left; (focus (intro _; go_simp; try with_reducible rfl)); simp only [Act.put, List.setIfInBounds_toArray, List.set_cons_zero, List.set_cons_succ])
            | (refine Txt.tl_skip (by rfl) trivial ?_; simp only [Act.put, List.setIfInBounds_toArray, List.set_cons_zero, List.set_cons_succ])
            | (refine Txt.tl_load (v := ?_) (by rfl) (by rfl) (by rfl) (by kernel_rfl) ?_ ?_; rotate_left; (focus (first | assumption | (go_simp; done) | (go_simp; with_reducible rfl))); simp only [Act.put, List.setIfInBounds_toArray, List.set_cons_zero, List.set_cons_succ])
            | (refine Txt.tl_alloc (by rfl) ?_; go_simp; refine ⟨by (first | exact Txt.Le.alloc_drew _ _ | exact Txt.Le.alloc _ _), ?_⟩))
          refine Txt.tl_loadS (v := .string B) (by rfl) (by rfl) (by rfl) (by kernel_rfl) (fun _ h => h) ?_
          simp only [Act.put, List.setIfInBounds_toArray, List.set_cons_zero, List.set_cons_succ]
          repeat (first
            | (refine Txt.tl_pure (v := ?_) (by rfl) ?_ ?_; rotate_left; (focus (intro _; go_simp; try with_reducible rfl)); simp only [Act.put, List.setIfInBounds_toArray, List.set_cons_zero, List.set_cons_succ])
            | (refine Txt.tl_skip (by rfl) trivial ?_; simp only [Act.put, List.setIfInBounds_toArray, List.set_cons_zero, List.set_cons_succ])
            | (refine Txt.tl_load (v := ?_) (by rfl) (by rfl) (by rfl) (by kernel_rfl) ?_ ?_; rotate_left; (focus (first | assumption | (go_simp; done) | (go_simp; with_reducible rfl))); simp only [Act.put, List.setIfInBounds_toArray, List.set_cons_zero, List.set_cons_succ])
            | (refine Txt.tl_alloc (by rfl) ?_; go_simp; refine ⟨by (first | exact Txt.Le.alloc_drew _ _ | exact Txt.Le.alloc _ _), ?_⟩))
          refine Txt.tl_loud (by rfl) ?_
          go_simp
          refine (most_any _ _).mono ?_
          rintro e w1 ⟨rfl, rfl⟩
          dsimp only
          refine ⟨hcB, ?_⟩
          repeat (first
            | (refine Txt.tl_pure (v := ?_) (by rfl) ?_ ?_; rotate_left; (focus (intro _; go_simp; try with_reducible rfl)); simp only [Act.put, List.setIfInBounds_toArray, List.set_cons_zero, List.set_cons_succ])
            | (refine Txt.tl_skip (by rfl) trivial ?_; simp only [Act.put, List.setIfInBounds_toArray, List.set_cons_zero, List.set_cons_succ])
            | (refine Txt.tl_load (v := ?_) (by rfl) (by rfl) (by rfl) (by kernel_rfl) ?_ ?_; rotate_left; (focus (first | assumption | (go_simp; done) | (go_simp; with_reducible rfl))); simp only [Act.put, List.setIfInBounds_toArray, List.set_cons_zero, List.set_cons_succ])
            | (refine Txt.tl_alloc (by rfl) ?_; go_simp; refine ⟨by (first | exact Txt.Le.alloc_drew _ _ | exact Txt.Le.alloc _ _), ?_⟩))
          refine Txt.tl_loud (by rfl) ?_
          go_simp
          refine (long_s _ _ _ _ rfl).mono ?_
          rintro e w1 ⟨rfl, rfl⟩
          dsimp only
          refine ⟨hcB, ?_⟩
          repeat (first
            | (refine Txt.tl_pure (v := ?_) (by rfl) ?_ ?_; rotate_left; (focus (intro _; go_simp; try with_reducible rfl)); simp only [Act.put, List.setIfInBounds_toArray, List.set_cons_zero, List.set_cons_succ])
            | (refine Txt.tl_skip (by rfl) trivial ?_; simp only [Act.put, List.setIfInBounds_toArray, List.set_cons_zero, List.set_cons_succ])
            | (refine Txt.tl_load (v := ?_) (by rfl) (by rfl) (by rfl) (by kernel_rfl) ?_ ?_; rotate_left; (focus (first | assumption | (go_simp; done) | (go_simp; with_reducible rfl))); simp only [Act.put, List.setIfInBounds_toArray, List.set_cons_zero, List.set_cons_succ])
            | (refine Txt.tl_alloc (by rfl) ?_; go_simp; refine ⟨by (first | exact Txt.Le.alloc_drew _ _ | exact Txt.Le.alloc _ _), ?_⟩))
          refine Txt.tl_nil ?_
          go_wp2_with (first | (go_at_call 11; refine (has_any _ _).mono ?_; rw [Hk.out]; rintro e w1 ⟨rfl, rfl⟩) | go_in)
          go_ret
          exact ⟨rfl, ((Keep.refl _ _).alloc _).drew⟩
    · rw [chk_2n hk hn]
      have Hk : Hid _ := hk
      clear hk
      go_enter Try.func8, Try.ntmps8
      go_wp2_with (first | (go_at_call 11; refine (has_any _ _).mono ?_; rw [Hk.out]; rintro e w1 ⟨rfl, rfl⟩) | go_in)
      go_ret
      exact ⟨rfl, (Keep.refl _ _).alloc _⟩
end Ms
end Go.Proofs.Ythllhjdaknmlbaa
