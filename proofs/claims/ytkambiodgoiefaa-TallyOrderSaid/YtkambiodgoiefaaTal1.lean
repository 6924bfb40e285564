/-
  tally's contracts.
-/
import Derived.Test.YtkambiodgoiefaaRdLaw
import Derived.Laws.LoneSync
namespace Go.Proofs.Ytkambiodgoiefaa
open Go.RowKit
namespace Tal
open Oct

structure IsT (w : World) (b : Nat) (n : Int) : Prop where
  blk : w.heap[b]? = some (.cells #[.int .i64 n, .bool true] 45 (0, 0))
  lo : -9223372036854775808 ≤ n
  hi : n < 9223372036854775808
theorem IsT.keep {w w' : World} {b : Nat} {n : Int} (h : IsT w b n) {S : Nat → Prop} (hk : Keep S w w') (h1 : ¬ S b) : IsT w' b n := ⟨hk.get h.blk h1, h.lo, h.hi⟩

theorem new_t (w : World) : Calls Try.prog 7 #[] w fun e w' => e = .returned (.pointer (some ⟨w.heap.size, 0, none⟩)) ∧ IsT w' w.heap.size 0 ∧ Keep (fun _ => False) w w' := by
  go_enter Try.func7, Try.ntmps7
  go_wp2
  go_ret
  exact ⟨rfl, ⟨heap_alloc_new w _, by omega, by omega⟩, (Keep.refl _ _).alloc _⟩
theorem add_t (w : World) (b : Nat) (n k : Int) (h : IsT w b n) (hk : -9223372036854775808 ≤ n + k ∧ n + k < 9223372036854775808) :
    Calls Try.prog 17 #[.pointer (some ⟨b, 0, none⟩), .int .i64 k] w fun e w' => e = .returned (.int .i64 (n + k)) ∧ w' = w.setCell ⟨b, 0, none⟩ (.int .i64 (n + k)) := by
  have hc : w.cell? ⟨b, 0, none⟩ = some (.int .i64 n) := by rw [cell_of h.blk]; rfl
  have hz : w.frozen? ⟨b, 0, none⟩ = false := free_of h.blk
  have hs : (Op.intArith .add .i64 n k).run Try.prog w = .ok (.int .i64 (n + k)) w := by
    have : IntKind.i64.wrap (n + k) = n + k := IntWalk.i64_in _ (by omega)
    simp [Op.intArith, this]
  have hadd := run_call_add (P := Try.prog) Try.func29 (by kernel_rfl) (by kernel_rfl) (by kernel_rfl) .i64 (by kernel_rfl) (y := k) hc hz hs
  go_enter Try.func17, Try.ntmps17
  go_wp2
  go_ret
  exact ⟨rfl, rfl⟩
theorem load_t (w : World) (b : Nat) (n : Int) (h : IsT w b n) :
    Calls Try.prog 18 #[.pointer (some ⟨b, 0, none⟩)] w fun e w' => e = .returned (.int .i64 n) ∧ w' = w := by
  have hc : w.cell? ⟨b, 0, none⟩ = some (.int .i64 n) := by rw [cell_of h.blk]; rfl
  have hl := run_call_load (P := Try.prog) Try.func30 (by kernel_rfl) (by kernel_rfl) (by kernel_rfl) .i64 (by kernel_rfl) hc
  go_enter Try.func18, Try.ntmps18
  go_wp2
  go_ret
  exact ⟨rfl, rfl⟩
theorem store_t (w : World) (b : Nat) (n k : Int) (h : IsT w b n) :
    Calls Try.prog 26 #[.pointer (some ⟨b, 0, none⟩), .int .i64 k] w fun e w' => e = .returned (.tuple #[]) ∧ w' = w.setCell ⟨b, 0, none⟩ (.int .i64 k) := by
  have hc : w.cell? ⟨b, 0, none⟩ = some (.int .i64 n) := by rw [cell_of h.blk]; rfl
  have hz : w.frozen? ⟨b, 0, none⟩ = false := free_of h.blk
  have hst := run_call_store (P := Try.prog) Try.func37 (by kernel_rfl) (by kernel_rfl) (by kernel_rfl) (by kernel_rfl) (k := .i64) (y := k) hc hz
  go_enter Try.func26, Try.ntmps26
  go_wp2
  go_end0
  exact ⟨rfl, rfl⟩
end Tal
end Go.Proofs.Ytkambiodgoiefaa
