/-
  petrelref09's Check.
-/
import Derived.Test.YtmnmemeldjbifaaMsg1
import Derived.Lib.Strings
set_option linter.unusedVariables false
set_option linter.unusedSimpArgs false
namespace Go.Proofs.Ytmnmemeldjbifaa
open Go.RowKit
namespace Ms
open Oct

theorem empty_of {B : ByteArray} (h : B.size = 0) : B = ByteArray.empty := by
  apply ByteArray.ext
  exact Array.eq_empty_of_size_eq_zero h
theorem list_ne {B : ByteArray} (h : B.size ≠ 0) : ¬ B.toList = [] := by
  rw [Lib.toList_data]
  intro e
  exact h (by show B.data.size = 0; rw [← Array.length_toList, e]; rfl)
theorem list_ne2 {B : ByteArray} (h : B.size ≠ 0) : B.toList.isEmpty = false := by
  have := list_ne h
  cases hb : B.toList with
  | nil => exact absurd hb this
  | cons _ _ => rfl
theorem knd_1 {K : Int} (h : knd K = 1) : (K == 3) = false ∧ (K == 8) = false := by
  unfold knd at h
  rw [beq_eq_false_iff_ne, beq_eq_false_iff_ne]
  split at h <;> omega
theorem knd_2 {K : Int} (h : knd K = 2) : K = 3 ∨ K = 8 := by
  unfold knd at h
  split at h
  · assumption
  · split at h <;> omega
set_option maxRecDepth 100000 in
set_option maxHeartbeats 1000000 in
theorem rcheck_any (w : World) (K : Int) (a : Option Addr) (n c : Nat) (B : ByteArray) : Calls Try.prog 18 #[.agg #[.int .i64 K, .slice a n c, .string B]] w fun e w' => e = .returned (.int .i64 (chk K n B)) ∧ Keep (fun _ => False) w w' := by
  rcases knd_or K with hk | hk | hk
  · rw [chk_0 hk]
    have Hk : Hid _ := hk
    clear hk
    go_enter Try.func18, Try.ntmps18
    go_wp2_with (first | (go_at_call 40; refine (kind_any _ _).mono ?_; rw [Hk.out]; rintro e w1 ⟨rfl, rfl⟩) | go_in)
    go_ret
    exact ⟨rfl, (Keep.refl _ _).alloc _⟩
  · obtain ⟨n3, n8⟩ := knd_1 hk
    by_cases hb : B.size = 0
    · obtain rfl := empty_of hb
      by_cases hn : n ≤ 16
      · rw [chk_1 hk hb hn]
        have Hk : Hid _ := hk
        clear hk hb
        go_enter Try.func18, Try.ntmps18
        go_wp2_with (first | (go_at_call 40; refine (kind_any _ _).mono ?_; rw [Hk.out]; rintro e w1 ⟨rfl, rfl⟩) | go_in)
        go_ret
        exact ⟨rfl, (Keep.refl _ _).alloc _⟩
      · rw [chk_1n hk hb (by omega)]
        have Hk : Hid _ := hk
        clear hk hb
        go_enter Try.func18, Try.ntmps18
        go_wp2_with (first | (go_at_call 40; refine (kind_any _ _).mono ?_; rw [Hk.out]; rintro e w1 ⟨rfl, rfl⟩) | go_in)
        go_ret
        exact ⟨rfl, (Keep.refl _ _).alloc _⟩
    · rw [chk_1b hk hb]
      have hb1 := list_ne hb
      have hb2 := list_ne2 hb
      have Hk : Hid _ := hk
      clear hk
      go_enter Try.func18, Try.ntmps18
      go_wp2_with (first | (go_at_call 40; refine (kind_any _ _).mono ?_; rw [Hk.out]; rintro e w1 ⟨rfl, rfl⟩) | go_in)
      go_ret
      exact ⟨rfl, (Keep.refl _ _).alloc _⟩
  · by_cases hn : n = 0
    · by_cases hb : mst K < (B.size : Int)
      · rw [chk_2l hk hn hb]
        have Hk : Hid _ := hk
        subst hn
        rcases knd_2 hk with rfl | rfl
        all_goals
          clear hk
          unfold mst at hb
          simp at hb
          go_enter Try.func18, Try.ntmps18
          go_wp2_with (first | (go_at_call 40; refine (kind_any _ _).mono ?_; rw [Hk.out]; rintro e w1 ⟨rfl, rfl⟩) | go_in)
          go_ret
          exact ⟨rfl, (Keep.refl _ _).alloc _⟩
      · by_cases hz : B.size = 0
        · rw [chk_2z hk hn hz]
          have Hk : Hid _ := hk
          obtain rfl := empty_of hz
          subst hn
          rcases knd_2 hk with rfl | rfl
          all_goals
            clear hk hb hz
            go_enter Try.func18, Try.ntmps18
            go_wp2_with (first | (go_at_call 40; refine (kind_any _ _).mono ?_; rw [Hk.out]; rintro e w1 ⟨rfl, rfl⟩) | go_in)
            go_ret
            exact ⟨rfl, (Keep.refl _ _).alloc _⟩
        · rw [chk_2 hk hn hz hb]
          have hb1 := list_ne hz
          have hb2 := list_ne2 hz
          have Hk : Hid _ := hk
          subst hn
          rcases knd_2 hk with rfl | rfl
          all_goals
            clear hk
            unfold mst at hb
            simp at hb
            go_enter Try.func18, Try.ntmps18
            go_wp2_with (first | (go_at_call 40; refine (kind_any _ _).mono ?_; rw [Hk.out]; rintro e w1 ⟨rfl, rfl⟩) | go_in)
            go_ret
            exact ⟨rfl, (Keep.refl _ _).alloc _⟩
    · rw [chk_2n hk hn]
      have hn1 : 0 < n := by omega
      have Hk : Hid _ := hk
      clear hk
      go_enter Try.func18, Try.ntmps18
      go_wp2_with (first | (go_at_call 40; refine (kind_any _ _).mono ?_; rw [Hk.out]; rintro e w1 ⟨rfl, rfl⟩) | go_in)
      go_ret
      exact ⟨rfl, (Keep.refl _ _).alloc _⟩
end Ms
end Go.Proofs.Ytmnmemeldjbifaa
