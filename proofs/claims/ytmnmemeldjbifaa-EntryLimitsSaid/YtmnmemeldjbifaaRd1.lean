/-
  Contracts of the reader's methods.
-/
import Derived.Test.YtmnmemeldjbifaaOct4
set_option linter.unusedVariables false
set_option linter.unusedSimpArgs false
namespace Go.Proofs.Ytmnmemeldjbifaa
open Go.RowKit
namespace Oct

/-- A reader at block b: the text, the place, the first error. -/
structure IsR (w : World) (b : Nat) (s : ByteArray) (at_ : Nat) (bad : Int) : Prop where
  blk : w.heap[b]? = some (.cells #[.string s, .int .i64 at_, .int .i64 bad, .bool true] 103 (0, 0))
  le : at_ ≤ s.size
  small : s.size ≤ maxLen

theorem IsR.keep {w w' : World} {b : Nat} {s : ByteArray} {at_ : Nat} {bad : Int} (h : IsR w b s at_ bad) {S : Nat → Prop} (hk : Keep S w w') (h1 : ¬ S b) : IsR w' b s at_ bad := ⟨hk.get h.blk h1, h.le, h.small⟩
theorem IsR.setBad {w : World} {b : Nat} {s : ByteArray} {at_ : Nat} {bad : Int} (h : IsR w b s at_ bad) (x : Int) : IsR (w.setCell ⟨b, 2, none⟩ (.int .i64 x)) b s at_ x := ⟨by rw [block_set h.blk]; rfl, h.le, h.small⟩
theorem IsR.setAt {w : World} {b : Nat} {s : ByteArray} {at_ : Nat} {bad : Int} (h : IsR w b s at_ bad) (x : Nat) (hx : x ≤ s.size) : IsR (w.setCell ⟨b, 1, none⟩ (.int .i64 x)) b s x bad := ⟨by rw [block_set h.blk]; rfl, hx, h.small⟩

set_option maxRecDepth 100000 in
theorem rnone (w : World) (b : Nat) (m : Bool) (h : w.cell? ⟨b, 3, none⟩ = some (.bool m)) : Calls Try.prog 70 #[.pointer (some ⟨b, 0, none⟩)] w fun e w' => e = .returned (.bool (!m)) ∧ w = w' := by
  go_enter Try.func70, Try.ntmps70
  go_wp2
  go_ret
  exact ⟨rfl, rfl⟩
set_option maxRecDepth 100000 in
theorem rnone_nil (w : World) : Calls Try.prog 70 #[.pointer none] w fun e w' => e = .returned (.bool true) ∧ w = w' := by
  go_enter Try.func70, Try.ntmps70
  go_wp2
  go_ret
  exact ⟨rfl, rfl⟩

set_option maxRecDepth 100000 in
theorem open_any (w : World) (s : ByteArray) (hs : s.size ≤ maxLen) : Calls Try.prog 32 #[.string s] w fun e w' => e = .returned (.pointer (some ⟨w.heap.size, 0, none⟩)) ∧ IsR w' w.heap.size s 0 0 ∧ Keep (fun _ => False) w w' := by
  go_enter Try.func32, Try.ntmps32
  go_wp2
  go_ret
  exact ⟨rfl, ⟨heap_alloc_new w _, Nat.zero_le _, hs⟩, (Keep.refl _ _).alloc _⟩

set_option maxRecDepth 100000 in
theorem stuck_at (w : World) (b : Nat) (s : ByteArray) (at_ : Nat) (bad : Int) (x : Bool) (h : IsR w b s at_ bad) (hx : (bad != 0) = x) : Calls Try.prog 67 #[.pointer (some ⟨b, 0, none⟩)] w fun e w' => e = .returned (.bool x) ∧ w = w' := by
  have hc0 : w.cell? ⟨b, 0, none⟩ = some (.string s) := by rw [cell_of h.blk]; rfl
  have hc1 : w.cell? ⟨b, 1, none⟩ = some (.int .i64 at_) := by rw [cell_of h.blk]; rfl
  have hc2 : w.cell? ⟨b, 2, none⟩ = some (.int .i64 bad) := by rw [cell_of h.blk]; rfl
  have hc3 : w.cell? ⟨b, 3, none⟩ = some (.bool true) := by rw [cell_of h.blk]; rfl
  have hf1 : w.frozen? ⟨b, 1, none⟩ = false := free_of h.blk
  have hf2 : w.frozen? ⟨b, 2, none⟩ = false := free_of h.blk
  have hbl : b < w.heap.size := lt_of_block h.blk
  have hat := h.le
  have hsz := h.small
  unfold maxLen at hsz
  clear h
  go_enter Try.func67, Try.ntmps67
  go_wp2_with (first | (go_at_call 70; refine (rnone _ _ _ (by first | exact hc3 | (simp; exact hc3))).mono ?_; rintro e w' ⟨rfl, rfl⟩))
  go_ret
  exact ⟨rfl, rfl⟩

set_option maxRecDepth 100000 in
theorem err_any (w : World) (b : Nat) (s : ByteArray) (at_ : Nat) (bad : Int) (h : IsR w b s at_ bad) : Calls Try.prog 34 #[.pointer (some ⟨b, 0, none⟩)] w fun e w' => e = .returned (.int .i64 bad) ∧ w = w' := by
  have hc0 : w.cell? ⟨b, 0, none⟩ = some (.string s) := by rw [cell_of h.blk]; rfl
  have hc1 : w.cell? ⟨b, 1, none⟩ = some (.int .i64 at_) := by rw [cell_of h.blk]; rfl
  have hc2 : w.cell? ⟨b, 2, none⟩ = some (.int .i64 bad) := by rw [cell_of h.blk]; rfl
  have hc3 : w.cell? ⟨b, 3, none⟩ = some (.bool true) := by rw [cell_of h.blk]; rfl
  have hf1 : w.frozen? ⟨b, 1, none⟩ = false := free_of h.blk
  have hf2 : w.frozen? ⟨b, 2, none⟩ = false := free_of h.blk
  have hbl : b < w.heap.size := lt_of_block h.blk
  have hat := h.le
  have hsz := h.small
  unfold maxLen at hsz
  clear h
  go_enter Try.func34, Try.ntmps34
  go_wp2_with (first | (go_at_call 70; refine (rnone _ _ _ (by first | exact hc3 | (simp; exact hc3))).mono ?_; rintro e w' ⟨rfl, rfl⟩))
  go_ret
  exact ⟨rfl, rfl⟩

set_option maxRecDepth 100000 in
/-- 'Raw': what it answers; the new place; the error. -/
theorem rraw_bad (w : World) (b : Nat) (s : ByteArray) (at_ : Nat) (bad n : Int) (h : IsR w b s at_ bad) (hb : bad ≠ 0) : Calls Try.prog 69 #[.pointer (some ⟨b, 0, none⟩), .int .i64 n] w fun e w' => e = .returned (.string ByteArray.empty) ∧ w = w' := by
  have HR : Hid (IsR w b s at_ bad) := h
  clear h
  go_enter Try.func69, Try.ntmps69
  go_wp2_with (first | (go_at_call 67; refine (stuck_at _ b s at_ _ true HR.out (by first | rfl | simpa using hb)).mono ?_; rintro e w' ⟨rfl, rfl⟩))
  go_ret
  exact ⟨rfl, rfl⟩
set_option maxRecDepth 100000 in
theorem rraw_neg (w : World) (b : Nat) (s : ByteArray) (at_ : Nat) (n : Int) (h : IsR w b s at_ 0) (hn : n < 0) : Calls Try.prog 69 #[.pointer (some ⟨b, 0, none⟩), .int .i64 n] w fun e w' => e = .returned (.string ByteArray.empty) ∧ IsR w' b s at_ 1 ∧ Keep (fun k => k = b) w w' := by
  have hc0 : w.cell? ⟨b, 0, none⟩ = some (.string s) := by rw [cell_of h.blk]; rfl
  have hc1 : w.cell? ⟨b, 1, none⟩ = some (.int .i64 at_) := by rw [cell_of h.blk]; rfl
  have hc2 : w.cell? ⟨b, 2, none⟩ = some (.int .i64 0) := by rw [cell_of h.blk]; rfl
  have hc3 : w.cell? ⟨b, 3, none⟩ = some (.bool true) := by rw [cell_of h.blk]; rfl
  have hf1 : w.frozen? ⟨b, 1, none⟩ = false := free_of h.blk
  have hf2 : w.frozen? ⟨b, 2, none⟩ = false := free_of h.blk
  have hbl : b < w.heap.size := lt_of_block h.blk
  have hat := h.le
  have hsz := h.small
  unfold maxLen at hsz
  have HR : Hid (IsR w b s at_ 0) := h
  clear h
  go_enter Try.func69, Try.ntmps69
  go_wp2_with (first | (go_at_call 67; refine (stuck_at _ b s at_ _ false HR.out (by first | rfl | simpa using hb)).mono ?_; rintro e w' ⟨rfl, rfl⟩))
  go_ret
  exact ⟨rfl, HR.out.setBad 1, (Keep.refl _ _).setCell _ _ (fun _ => rfl)⟩
end Oct
end Go.Proofs.Ytmnmemeldjbifaa
