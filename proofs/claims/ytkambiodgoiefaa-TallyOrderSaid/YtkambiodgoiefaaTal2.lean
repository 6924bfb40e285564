/-
  tally's contracts: Inc, N.
-/
import Derived.Test.YtkambiodgoiefaaTal1
namespace Go.Proofs.Ytkambiodgoiefaa
open Go.RowKit
namespace Tal
open Oct
theorem n_t (w : World) (b : Nat) (n : Int) (h : IsT w b n) :
    Calls Try.prog 10 #[.pointer (some ⟨b, 0, none⟩)] w fun e w' => e = .returned (.int .i64 n) ∧ w' = w := by
  have hc1 : w.cell? ⟨b, 1, none⟩ = some (.bool true) := by rw [cell_of h.blk]; rfl
  have H : Hid _ := h
  clear h
  go_enter Try.func10, Try.ntmps10
  go_wp2_with (first | (go_at_call 16; go_in) | (go_at_call 18; refine (load_t _ b n H.out).mono ?_; rintro e w' ⟨rfl, rfl⟩))
  go_ret
  exact ⟨rfl, rfl⟩
/-- What 'Inc' may count. -/
def may (k : Int) : Bool := decide (k < 2147483648 ∧ -2147483648 ≤ k)
theorem inc_t (w : World) (b : Nat) (n k : Int) (h : IsT w b n) (hk : k < 2147483648 ∧ -2147483648 ≤ k) (hn : -9000000000000000000 ≤ n ∧ n ≤ 9000000000000000000) :
    Calls Try.prog 8 #[.pointer (some ⟨b, 0, none⟩), .int .i64 k] w fun e w' => e = .returned (.int .i64 0) ∧ IsT w' b (n + k) ∧ Keep (fun y => y = b) w w' := by
  have hc1 : w.cell? ⟨b, 1, none⟩ = some (.bool true) := by rw [cell_of h.blk]; rfl
  have H : Hid _ := h
  have hr : -9223372036854775808 ≤ n + k ∧ n + k < 9223372036854775808 := by omega
  have h1 : ¬ (2147483648 ≤ k) := by omega
  have h2 : ¬ (k < -2147483648) := by omega
  clear h
  go_enter Try.func8, Try.ntmps8
  go_wp2_with (first | (go_at_call 16; go_in) | (go_at_call 17; refine (add_t _ b n k H.out hr).mono ?_; rintro e w' ⟨rfl, rfl⟩))
  go_ret
  exact ⟨rfl, ⟨by rw [block_set H.out.blk]; rfl, hr.1, hr.2⟩, (Keep.refl _ _).setCell _ _ (fun _ => rfl)⟩
theorem inc_bad (w : World) (b : Nat) (n k : Int) (h : IsT w b n) (hk : ¬ (k < 2147483648 ∧ -2147483648 ≤ k)) :
    Calls Try.prog 8 #[.pointer (some ⟨b, 0, none⟩), .int .i64 k] w fun e w' => e = .returned (.int .i64 5) ∧ w' = w := by
  have hc1 : w.cell? ⟨b, 1, none⟩ = some (.bool true) := by rw [cell_of h.blk]; rfl
  have H : Hid _ := h
  clear h
  by_cases h1 : 2147483648 ≤ k
  · go_enter Try.func8, Try.ntmps8
    go_wp2_with (first | (go_at_call 16; go_in))
    go_ret
    exact ⟨rfl, rfl⟩
  · have h2 : k < -2147483648 := by omega
    go_enter Try.func8, Try.ntmps8
    go_wp2_with (first | (go_at_call 16; go_in))
    go_ret
    exact ⟨rfl, rfl⟩
end Tal
end Go.Proofs.Ytkambiodgoiefaa
