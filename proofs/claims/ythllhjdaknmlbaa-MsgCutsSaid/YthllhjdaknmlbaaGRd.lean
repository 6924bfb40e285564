/-
  Contracts of the reader's methods. Contracts of the document's answer for layer 1: numbers and texts as bytes; its reader. Contracts of the document's reader. The reader answers as the document's own does: plain law.
-/
import Derived.Test.YthllhjdaknmlbaaGOc
import Derived.IntWalk
import Derived.Handy
set_option linter.unusedVariables false
set_option linter.unusedSimpArgs false

namespace Go.Proofs.Ythllhjdaknmlbaa
open Go.RowKit
namespace Oct

/-- A reader at block b: the text, the place, the first error. -/
structure IsR (w : World) (b : Nat) (s : ByteArray) (at_ : Nat) (bad : Int) : Prop where
  blk : w.heap[b]? = some (.cells #[.string s, .int .i64 at_, .int .i64 bad, .bool true] 63 (0, 0))
  le : at_ ≤ s.size
  small : s.size ≤ maxLen

theorem IsR.keep {w w' : World} {b : Nat} {s : ByteArray} {at_ : Nat} {bad : Int} (h : IsR w b s at_ bad) {S : Nat → Prop} (hk : Keep S w w') (h1 : ¬ S b) : IsR w' b s at_ bad := ⟨hk.get h.blk h1, h.le, h.small⟩
theorem IsR.setBad {w : World} {b : Nat} {s : ByteArray} {at_ : Nat} {bad : Int} (h : IsR w b s at_ bad) (x : Int) : IsR (w.setCell ⟨b, 2, none⟩ (.int .i64 x)) b s at_ x := ⟨by rw [block_set h.blk]; rfl, h.le, h.small⟩
theorem IsR.setAt {w : World} {b : Nat} {s : ByteArray} {at_ : Nat} {bad : Int} (h : IsR w b s at_ bad) (x : Nat) (hx : x ≤ s.size) : IsR (w.setCell ⟨b, 1, none⟩ (.int .i64 x)) b s x bad := ⟨by rw [block_set h.blk]; rfl, hx, h.small⟩

set_option maxRecDepth 100000 in
theorem rnone (w : World) (b : Nat) (m : Bool) (h : w.cell? ⟨b, 3, none⟩ = some (.bool m)) : Calls Try.prog 36 #[.pointer (some ⟨b, 0, none⟩)] w fun e w' => e = .returned (.bool (!m)) ∧ w = w' := by
  go_enter Try.func36, Try.ntmps36
  go_wp2
  go_ret
  exact ⟨rfl, rfl⟩
set_option maxRecDepth 100000 in
theorem rnone_nil (w : World) : Calls Try.prog 36 #[.pointer none] w fun e w' => e = .returned (.bool true) ∧ w = w' := by
  go_enter Try.func36, Try.ntmps36
  go_wp2
  go_ret
  exact ⟨rfl, rfl⟩

set_option maxRecDepth 100000 in
theorem open_any (w : World) (s : ByteArray) (hs : s.size ≤ maxLen) : Calls Try.prog 24 #[.string s] w fun e w' => e = .returned (.pointer (some ⟨w.heap.size, 0, none⟩)) ∧ IsR w' w.heap.size s 0 0 ∧ Keep (fun _ => False) w w' := by
  go_enter Try.func24, Try.ntmps24
  go_wp2
  go_ret
  exact ⟨rfl, ⟨heap_alloc_new w _, Nat.zero_le _, hs⟩, (Keep.refl _ _).alloc _⟩

set_option maxRecDepth 100000 in
theorem stuck_at (w : World) (b : Nat) (s : ByteArray) (at_ : Nat) (bad : Int) (x : Bool) (h : IsR w b s at_ bad) (hx : (bad != 0) = x) : Calls Try.prog 34 #[.pointer (some ⟨b, 0, none⟩)] w fun e w' => e = .returned (.bool x) ∧ w = w' := by
  have hc0 : w.cell? ⟨b, 0, none⟩ = some (.string s) := by rw [cell_of h.blk]; rfl
  have hc1 : w.cell? ⟨b, 1, none⟩ = some (.int .i64 at_) := by rw [cell_of h.blk]; rfl
  have hc2 : w.cell? ⟨b, 2, none⟩ = some (.int .i64 bad) := by rw [cell_of h.blk]; rfl
  have hc3 : w.cell? ⟨b, 3, none⟩ = some (.bool true) := by rw [cell_of h.blk]; rfl
  have hf1 : w.frozen? ⟨b, 1, none⟩ = false := free_of h.blk
  have hf2 : w.frozen? ⟨b, 2, none⟩ = false := free_of h.blk
  have hbl : b < w.heap.size := lt_of_block h.blk
  have hat := h.le
  have hsz := h.small
  unfold maxLen at hsz
  clear h
  go_enter Try.func34, Try.ntmps34
  go_wp2_with (first | (go_at_call 36; refine (rnone _ _ _ (by first | exact hc3 | (simp; exact hc3))).mono ?_; rintro e w' ⟨rfl, rfl⟩))
  go_ret
  exact ⟨rfl, rfl⟩

set_option maxRecDepth 100000 in
theorem err_any (w : World) (b : Nat) (s : ByteArray) (at_ : Nat) (bad : Int) (h : IsR w b s at_ bad) : Calls Try.prog 26 #[.pointer (some ⟨b, 0, none⟩)] w fun e w' => e = .returned (.int .i64 bad) ∧ w = w' := by
  have hc0 : w.cell? ⟨b, 0, none⟩ = some (.string s) := by rw [cell_of h.blk]; rfl
  have hc1 : w.cell? ⟨b, 1, none⟩ = some (.int .i64 at_) := by rw [cell_of h.blk]; rfl
  have hc2 : w.cell? ⟨b, 2, none⟩ = some (.int .i64 bad) := by rw [cell_of h.blk]; rfl
  have hc3 : w.cell? ⟨b, 3, none⟩ = some (.bool true) := by rw [cell_of h.blk]; rfl
  have hf1 : w.frozen? ⟨b, 1, none⟩ = false := free_of h.blk
  have hf2 : w.frozen? ⟨b, 2, none⟩ = false := free_of h.blk
  have hbl : b < w.heap.size := lt_of_block h.blk
  have hat := h.le
  have hsz := h.small
  unfold maxLen at hsz
  clear h
  go_enter Try.func26, Try.ntmps26
  go_wp2_with (first | (go_at_call 36; refine (rnone _ _ _ (by first | exact hc3 | (simp; exact hc3))).mono ?_; rintro e w' ⟨rfl, rfl⟩))
  go_ret
  exact ⟨rfl, rfl⟩

set_option maxRecDepth 100000 in
/-- 'Raw': what it answers; the new place; the error. -/
theorem rraw_bad (w : World) (b : Nat) (s : ByteArray) (at_ : Nat) (bad n : Int) (h : IsR w b s at_ bad) (hb : bad ≠ 0) : Calls Try.prog 35 #[.pointer (some ⟨b, 0, none⟩), .int .i64 n] w fun e w' => e = .returned (.string ByteArray.empty) ∧ w = w' := by
  have HR : Hid (IsR w b s at_ bad) := h
  clear h
  go_enter Try.func35, Try.ntmps35
  go_wp2_with (first | (go_at_call 34; refine (stuck_at _ b s at_ _ true HR.out (by first | rfl | simpa using hb)).mono ?_; rintro e w' ⟨rfl, rfl⟩))
  go_ret
  exact ⟨rfl, rfl⟩
set_option maxRecDepth 100000 in
theorem rraw_neg (w : World) (b : Nat) (s : ByteArray) (at_ : Nat) (n : Int) (h : IsR w b s at_ 0) (hn : n < 0) : Calls Try.prog 35 #[.pointer (some ⟨b, 0, none⟩), .int .i64 n] w fun e w' => e = .returned (.string ByteArray.empty) ∧ IsR w' b s at_ 1 ∧ Keep (fun k => k = b) w w' := by
  have hc0 : w.cell? ⟨b, 0, none⟩ = some (.string s) := by rw [cell_of h.blk]; rfl
  have hc1 : w.cell? ⟨b, 1, none⟩ = some (.int .i64 at_) := by rw [cell_of h.blk]; rfl
  have hc2 : w.cell? ⟨b, 2, none⟩ = some (.int .i64 0) := by rw [cell_of h.blk]; rfl
  have hc3 : w.cell? ⟨b, 3, none⟩ = some (.bool true) := by rw [cell_of h.blk]; rfl
  have hf1 : w.frozen? ⟨b, 1, none⟩ = false := free_of h.blk
  have hf2 : w.frozen? ⟨b, 2, none⟩ = false := free_of h.blk
  have hbl : b < w.heap.size := lt_of_block h.blk
  have hat := h.le
  have hsz := h.small
  unfold maxLen at hsz
  have HR : Hid (IsR w b s at_ 0) := h
  clear h
  go_enter Try.func35, Try.ntmps35
  go_wp2_with (first | (go_at_call 34; refine (stuck_at _ b s at_ _ false HR.out (by first | rfl | simpa using hb)).mono ?_; rintro e w' ⟨rfl, rfl⟩))
  go_ret
  exact ⟨rfl, HR.out.setBad 1, (Keep.refl _ _).setCell _ _ (fun _ => rfl)⟩
end Oct
end Go.Proofs.Ythllhjdaknmlbaa

namespace Go.Proofs.Ythllhjdaknmlbaa
open Go.RowKit
namespace Oct

set_option maxRecDepth 100000 in
theorem rraw_short (w : World) (b : Nat) (s : ByteArray) (at_ : Nat) (n : Int) (h : IsR w b s at_ 0) (hn0 : 0 ≤ n) (hn : (s.size : Int) - at_ < n) : Calls Try.prog 35 #[.pointer (some ⟨b, 0, none⟩), .int .i64 n] w fun e w' => e = .returned (.string ByteArray.empty) ∧ IsR w' b s at_ 2 ∧ Keep (fun k => k = b) w w' := by
  have hc0 : w.cell? ⟨b, 0, none⟩ = some (.string s) := by rw [cell_of h.blk]; rfl
  have hc1 : w.cell? ⟨b, 1, none⟩ = some (.int .i64 at_) := by rw [cell_of h.blk]; rfl
  have hc2 : w.cell? ⟨b, 2, none⟩ = some (.int .i64 0) := by rw [cell_of h.blk]; rfl
  have hc3 : w.cell? ⟨b, 3, none⟩ = some (.bool true) := by rw [cell_of h.blk]; rfl
  have hf1 : w.frozen? ⟨b, 1, none⟩ = false := free_of h.blk
  have hf2 : w.frozen? ⟨b, 2, none⟩ = false := free_of h.blk
  have hbl : b < w.heap.size := lt_of_block h.blk
  have hat := h.le
  have hsz := h.small
  unfold maxLen at hsz
  have hw1 : IntKind.i64.wrap ((s.size : Int) - at_) = (s.size : Int) - at_ := IntWalk.i64_in _ (by omega)
  have hw2 : IntKind.i64.wrap (at_ : Int) = at_ := IntWalk.i64_in _ (by omega)
  have HR : Hid (IsR w b s at_ 0) := h
  clear h
  go_enter Try.func35, Try.ntmps35
  go_wp2_with (first | (go_at_call 34; refine (stuck_at _ b s at_ _ false HR.out (by first | rfl | simpa using hb)).mono ?_; rintro e w' ⟨rfl, rfl⟩))
  refine Txt.wp_region_text (fun _ => True) [0, 0, 0, 0, 1, 0, 0, 0, 0, 1, 0, 0, 0] (by kernel_rfl) (by kernel_rfl) trivial ?_
  repeat (first
    | (refine Txt.tl_pure (v := ?_) (by rfl) ?_ ?_; rotate_left; (focus (intro _; go_simp; try with_reducible rfl)); simp only [Act.put, List.setIfInBounds_toArray, List.set_cons_zero, List.set_cons_succ])
    | (refine Txt.tl_skip (by rfl) trivial ?_; simp only [Act.put, List.setIfInBounds_toArray, List.set_cons_zero, List.set_cons_succ])
    | (refine Txt.tl_load (v := ?_) (by rfl) (by rfl) (by rfl) (by kernel_rfl) ?_ ?_; rotate_left; (focus (first | assumption | (go_simp; done) | (go_simp; with_reducible rfl))); simp only [Act.put, List.setIfInBounds_toArray, List.set_cons_zero, List.set_cons_succ])
    | (refine Txt.tl_alloc (by rfl) ?_; go_simp; refine ⟨by (first | exact Txt.Le.alloc_drew _ _ | exact Txt.Le.alloc _ _), ?_⟩))
  refine Txt.tl_nil ?_
  go_wp2
  go_ret
  exact ⟨rfl, (HR.out.keep (Keep.refl (fun _ => False) _).drew id).setBad 2, ((Keep.refl _ _).drew).setCell _ _ (fun _ => rfl)⟩

set_option maxRecDepth 100000 in
theorem rraw_ok (w : World) (b : Nat) (s : ByteArray) (at_ n : Nat) (h : IsR w b s at_ 0) (hn : at_ + n ≤ s.size) : Calls Try.prog 35 #[.pointer (some ⟨b, 0, none⟩), .int .i64 n] w fun e w' => e = .returned (.string (s.extract at_ (at_ + n))) ∧ IsR w' b s (at_ + n) 0 ∧ Keep (fun k => k = b) w w' := by
  have hc0 : w.cell? ⟨b, 0, none⟩ = some (.string s) := by rw [cell_of h.blk]; rfl
  have hc1 : w.cell? ⟨b, 1, none⟩ = some (.int .i64 at_) := by rw [cell_of h.blk]; rfl
  have hc2 : w.cell? ⟨b, 2, none⟩ = some (.int .i64 0) := by rw [cell_of h.blk]; rfl
  have hc3 : w.cell? ⟨b, 3, none⟩ = some (.bool true) := by rw [cell_of h.blk]; rfl
  have hf1 : w.frozen? ⟨b, 1, none⟩ = false := free_of h.blk
  have hf2 : w.frozen? ⟨b, 2, none⟩ = false := free_of h.blk
  have hbl : b < w.heap.size := lt_of_block h.blk
  have hat := h.le
  have hsz := h.small
  unfold maxLen at hsz
  have hw1 : IntKind.i64.wrap ((s.size : Int) - at_) = (s.size : Int) - at_ := IntWalk.i64_in _ (by omega)
  have hw2 : IntKind.i64.wrap (at_ : Int) = at_ := IntWalk.i64_in _ (by omega)
  have HR : Hid (IsR w b s at_ 0) := h
  clear h
  go_enter Try.func35, Try.ntmps35
  go_wp2_with (first | (go_at_call 34; refine (stuck_at _ b s at_ _ false HR.out (by first | rfl | simpa using hb)).mono ?_; rintro e w' ⟨rfl, rfl⟩))
  refine Txt.wp_region_text (fun _ => True) [0, 0, 0, 0, 1, 0, 0, 0, 0, 1, 0, 0, 0] (by kernel_rfl) (by kernel_rfl) trivial ?_
  repeat (first
    | (refine Txt.tl_pure (v := ?_) (by rfl) ?_ ?_; rotate_left; (focus (intro _; go_simp; try with_reducible rfl)); simp only [Act.put, List.setIfInBounds_toArray, List.set_cons_zero, List.set_cons_succ])
    | (refine Txt.tl_skip (by rfl) trivial ?_; simp only [Act.put, List.setIfInBounds_toArray, List.set_cons_zero, List.set_cons_succ])
    | (refine Txt.tl_load (v := ?_) (by rfl) (by rfl) (by rfl) (by kernel_rfl) ?_ ?_; rotate_left; (focus (first | assumption | (go_simp; done) | (go_simp; with_reducible rfl))); simp only [Act.put, List.setIfInBounds_toArray, List.set_cons_zero, List.set_cons_succ])
    | (refine Txt.tl_alloc (by rfl) ?_; go_simp; refine ⟨by (first | exact Txt.Le.alloc_drew _ _ | exact Txt.Le.alloc _ _), ?_⟩))
  refine Txt.tl_nil ?_
  go_wp2
  have h1 : (w.setCell ⟨b, 1, none⟩ (.int .i64 ((at_ : Int) + n))).heap[b]? = some (.cells #[.string s, .int .i64 ((at_ : Int) + n), .int .i64 0, .bool true] 63 (0, 0)) := by
    rw [block_set HR.out.blk]; rfl
  have e0 : (w.setCell ⟨b, 1, none⟩ (.int .i64 ((at_ : Int) + n))).cell? ⟨b, 0, none⟩ = some (.string s) := by rw [cell_of h1]; rfl
  have e1 : (w.setCell ⟨b, 1, none⟩ (.int .i64 ((at_ : Int) + n))).cell? ⟨b, 1, none⟩ = some (.int .i64 ((at_ : Int) + n)) := by rw [cell_of h1]; rfl
  clear h1
  have b1 : (0 : Int) ≤ (at_ : Int) := by omega
  have b2 : (at_ : Int) ≤ (at_ : Int) + n := by omega
  have b3 : (at_ : Int) + n ≤ (s.size : Int) := by omega
  have b4 : (0 : Int) ≤ (at_ : Int) + n := by omega
  refine Txt.wp_region_text (fun _ => True) [0, 0, 0, 1, 0, 0, 0, 1, 0, 0, 0, 0, 0, 1, 0, 0] (by kernel_rfl) (by kernel_rfl) trivial ?_
  repeat (first
    | (refine Txt.tl_pure (v := ?_) (by rfl) ?_ ?_; rotate_left; (focus (intro _; go_simp; try with_reducible rfl)); simp only [Act.put, List.setIfInBounds_toArray, List.set_cons_zero, List.set_cons_succ])
    | (refine Txt.tl_skip (by rfl) trivial ?_; simp only [Act.put, List.setIfInBounds_toArray, List.set_cons_zero, List.set_cons_succ])
    | (refine Txt.tl_load (v := ?_) (by rfl) (by rfl) (by rfl) (by kernel_rfl) ?_ ?_; rotate_left; (focus (first | assumption | (go_simp; done) | (go_simp; with_reducible rfl))); simp only [Act.put, List.setIfInBounds_toArray, List.set_cons_zero, List.set_cons_succ])
    | (refine Txt.tl_alloc (by rfl) ?_; go_simp; refine ⟨by (first | exact Txt.Le.alloc_drew _ _ | exact Txt.Le.alloc _ _), ?_⟩))
  refine Txt.tl_nil ?_
  go_wp2
  go_ret
  have hAt := HR.out.setAt (at_ + n) (by omega)
  rw [Int.natCast_add] at hAt
  refine ⟨?_, ⟨hAt.blk, by omega, by unfold maxLen; omega⟩, (((Keep.refl (fun k => k = b) _).setCell _ _ (fun _ => rfl)).drew).drew⟩
  show Ending.returned (.string (s.extract at_ ((at_ : Int) + n).toNat)) = _
  rw [show ((at_ : Int) + n).toNat = at_ + n from by omega]

/-- What 'Raw' answers, and leaves. -/
def rraw (s : ByteArray) (at_ : Nat) (bad n : Int) : ByteArray × Nat × Int :=
  if bad ≠ 0 then (ByteArray.empty, at_, bad) else if n < 0 then (ByteArray.empty, at_, 1) else if (s.size : Int) - at_ < n then (ByteArray.empty, at_, 2) else (s.extract at_ (at_ + n.toNat), at_ + n.toNat, 0)

theorem rraw_any (w : World) (b : Nat) (s : ByteArray) (at_ : Nat) (bad n : Int) (h : IsR w b s at_ bad) : Calls Try.prog 35 #[.pointer (some ⟨b, 0, none⟩), .int .i64 n] w fun e w' =>
    e = .returned (.string (rraw s at_ bad n).1) ∧ IsR w' b s (rraw s at_ bad n).2.1 (rraw s at_ bad n).2.2 ∧ Keep (fun k => k = b) w w' := by
  by_cases hb : bad = 0
  case neg =>
    have e : rraw s at_ bad n = (ByteArray.empty, at_, bad) := by simp [rraw, hb]
    rw [e]
    refine (rraw_bad w b s at_ bad n h hb).mono ?_
    rintro e w' ⟨rfl, rfl⟩
    exact ⟨rfl, h, Keep.refl _ _⟩
  subst hb
  by_cases hn : n < 0
  · have e : rraw s at_ 0 n = (ByteArray.empty, at_, 1) := by simp [rraw, hn]
    rw [e]
    exact rraw_neg w b s at_ n h hn
  by_cases hl : (s.size : Int) - at_ < n
  · have e : rraw s at_ 0 n = (ByteArray.empty, at_, 2) := by simp [rraw, hn, hl]
    rw [e]
    exact rraw_short w b s at_ n h (by omega) hl
  obtain ⟨m, rfl⟩ := Int.eq_ofNat_of_zero_le (show 0 ≤ n by omega)
  have e : rraw s at_ 0 m = (s.extract at_ (at_ + m), at_ + m, 0) := by simp [rraw, hn, hl]
  rw [e]
  exact rraw_ok w b s at_ m h (by omega)

/-- The number of bytes, the highest first. -/
def natOf (l : List UInt8) : Nat := l.foldl (fun n c => 256 * n + c.toNat) 0
theorem natOf_snoc (l : List UInt8) (c : UInt8) : natOf (l ++ [c]) = 256 * natOf l + c.toNat := by simp [natOf, List.foldl_append]
theorem natOf_lt' : ∀ (l : List UInt8) (a n : Nat), a < 256 ^ n → l.foldl (fun n c => 256 * n + c.toNat) a < 256 ^ (n + l.length)
  | [], _, _, h => h
  | c :: l, a, n, h => by
    have := natOf_lt' l (256 * a + c.toNat) (n + 1) (by rw [Nat.pow_succ]; have := c.toNat_lt; omega)
    rw [List.length_cons, show n + (l.length + 1) = n + 1 + l.length from by omega]
    exact this
theorem natOf_lt (l : List UInt8) : natOf l < 256 ^ l.length := by
  have := natOf_lt' l 0 0 (by simp)
  rw [Nat.zero_add] at this
  exact this
set_option maxRecDepth 100000 in
theorem end_any (w : World) (b : Nat) (s : ByteArray) (at_ : Nat) (bad : Int) (h : IsR w b s at_ bad) : Calls Try.prog 29 #[.pointer (some ⟨b, 0, none⟩)] w fun e w' =>
    e = .returned (.int .i64 (if bad = 0 then (if at_ = s.size then 0 else 4) else bad)) ∧ Keep (fun _ => False) w w' := by
  have hc0 : w.cell? ⟨b, 0, none⟩ = some (.string s) := by rw [cell_of h.blk]; rfl
  have hc1 : w.cell? ⟨b, 1, none⟩ = some (.int .i64 at_) := by rw [cell_of h.blk]; rfl
  have hc2 : w.cell? ⟨b, 2, none⟩ = some (.int .i64 bad) := by rw [cell_of h.blk]; rfl
  have hc3 : w.cell? ⟨b, 3, none⟩ = some (.bool true) := by rw [cell_of h.blk]; rfl
  have hf1 : w.frozen? ⟨b, 1, none⟩ = false := free_of h.blk
  have hf2 : w.frozen? ⟨b, 2, none⟩ = false := free_of h.blk
  have hbl : b < w.heap.size := lt_of_block h.blk
  have hat := h.le
  have hsz := h.small
  unfold maxLen at hsz
  have HR : Hid (IsR w b s at_ bad) := h
  clear h
  by_cases hb : bad = 0
  · subst hb
    by_cases he : at_ = s.size
    · have he' : ((at_ : Int) == (s.size : Int)) = true := by rw [beq_iff_eq]; omega
      have He : Hid _ := he
      clear he
      go_enter Try.func29, Try.ntmps29
      go_wp2_with (first | (go_at_call 26; refine (err_any _ _ _ _ _ HR.out).mono ?_; rintro e w' ⟨rfl, rfl⟩))
      refine Txt.wp_region_text (fun _ => True) [0, 0, 0, 0, 0, 0, 1, 0, 0, 0, 1, 0, 0, 0] (by kernel_rfl) (by kernel_rfl) trivial ?_
      repeat (first
        | (refine Txt.tl_pure (v := ?_) (by rfl) ?_ ?_; rotate_left; (focus (intro _; go_simp; try with_reducible rfl)); simp only [Act.put, List.setIfInBounds_toArray, List.set_cons_zero, List.set_cons_succ])
        | (refine Txt.tl_skip (by rfl) trivial ?_; simp only [Act.put, List.setIfInBounds_toArray, List.set_cons_zero, List.set_cons_succ])
        | (refine Txt.tl_load (v := ?_) (by rfl) (by rfl) (by rfl) (by kernel_rfl) ?_ ?_; rotate_left; (focus (first | assumption | (go_simp; done) | (go_simp; with_reducible rfl))); simp only [Act.put, List.setIfInBounds_toArray, List.set_cons_zero, List.set_cons_succ])
        | (refine Txt.tl_alloc (by rfl) ?_; go_simp; refine ⟨by (first | exact Txt.Le.alloc_drew _ _ | exact Txt.Le.alloc _ _), ?_⟩))
      refine Txt.tl_nil ?_
      go_wp2
      go_ret
      exact ⟨by simp [He.out], (Keep.refl _ _).drew⟩
    · have he' : ((at_ : Int) == (s.size : Int)) = false := by simp; omega
      go_enter Try.func29, Try.ntmps29
      go_wp2_with (first | (go_at_call 26; refine (err_any _ _ _ _ _ HR.out).mono ?_; rintro e w' ⟨rfl, rfl⟩))
      refine Txt.wp_region_text (fun _ => True) [0, 0, 0, 0, 0, 0, 1, 0, 0, 0, 1, 0, 0, 0] (by kernel_rfl) (by kernel_rfl) trivial ?_
      repeat (first
        | (refine Txt.tl_pure (v := ?_) (by rfl) ?_ ?_; rotate_left; (focus (intro _; go_simp; try with_reducible rfl)); simp only [Act.put, List.setIfInBounds_toArray, List.set_cons_zero, List.set_cons_succ])
        | (refine Txt.tl_skip (by rfl) trivial ?_; simp only [Act.put, List.setIfInBounds_toArray, List.set_cons_zero, List.set_cons_succ])
        | (refine Txt.tl_load (v := ?_) (by rfl) (by rfl) (by rfl) (by kernel_rfl) ?_ ?_; rotate_left; (focus (first | assumption | (go_simp; done) | (go_simp; with_reducible rfl))); simp only [Act.put, List.setIfInBounds_toArray, List.set_cons_zero, List.set_cons_succ])
        | (refine Txt.tl_alloc (by rfl) ?_; go_simp; refine ⟨by (first | exact Txt.Le.alloc_drew _ _ | exact Txt.Le.alloc _ _), ?_⟩))
      refine Txt.tl_nil ?_
      go_wp2
      go_ret
      exact ⟨by simp [he], (Keep.refl _ _).drew⟩
  · have hb' : (bad != 0) = true := by simpa using hb
    go_enter Try.func29, Try.ntmps29
    go_wp2_with (first | (go_at_call 26; refine (err_any _ _ _ _ _ HR.out).mono ?_; rintro e w' ⟨rfl, rfl⟩))
    refine Txt.wp_region_text (fun _ => True) [0, 0, 0, 0, 0, 0, 1, 0, 0, 0, 1, 0, 0, 0] (by kernel_rfl) (by kernel_rfl) trivial ?_
    repeat (first
      | (refine Txt.tl_pure (v := ?_) (by rfl) ?_ ?_; rotate_left; (focus (intro _; go_simp; try with_reducible rfl)); simp only [Act.put, List.setIfInBounds_toArray, List.set_cons_zero, List.set_cons_succ])
      | (refine Txt.tl_skip (by rfl) trivial ?_; simp only [Act.put, List.setIfInBounds_toArray, List.set_cons_zero, List.set_cons_succ])
      | (refine Txt.tl_load (v := ?_) (by rfl) (by rfl) (by rfl) (by kernel_rfl) ?_ ?_; rotate_left; (focus (first | assumption | (go_simp; done) | (go_simp; with_reducible rfl))); simp only [Act.put, List.setIfInBounds_toArray, List.set_cons_zero, List.set_cons_succ])
      | (refine Txt.tl_alloc (by rfl) ?_; go_simp; refine ⟨by (first | exact Txt.Le.alloc_drew _ _ | exact Txt.Le.alloc _ _), ?_⟩))
    refine Txt.tl_nil ?_
    go_wp2
    go_ret
    exact ⟨by simp [hb], (Keep.refl _ _).drew⟩
end Oct
end Go.Proofs.Ythllhjdaknmlbaa

namespace Go.Proofs.Ythllhjdaknmlbaa
open Go.RowKit
namespace Oct

def rnum (s : ByteArray) (at_ : Nat) (bad k : Int) : Nat × Nat × Int :=
  if bad ≠ 0 then (0, at_, bad) else if nbits k = 0 then (0, at_, 1) else (natOf (rraw s at_ 0 k).1.data.toList, (rraw s at_ 0 k).2.1, (rraw s at_ 0 k).2.2)

theorem or_i64 (a b : Nat) (ha : a < 4611686018427387904) (hb : b < 4611686018427387904) : bits .or .i64 (a : Int) (b : Int) = ((a ||| b : Nat) : Int) := by
  have hx : a ||| b < 2 ^ 62 := Nat.or_lt_two_pow (by omega) (by omega)
  show IntKind.i64.wrap ((BitVec.ofInt 64 (a : Int) ||| BitVec.ofInt 64 (b : Int)).toNat : Int) = _
  rw [BitVec.toNat_or, ofInt_u64 a (by omega), ofInt_u64 b (by omega), IntKind.wrap_i64]
  omega
theorem shl_or (m c : Nat) (hm : m < 16777216) (hc : c < 256) : bits .or .i64 ((m : Int) * 256) (c : Int) = ((256 * m + c : Nat) : Int) := by
  have e : m <<< 8 + c = m <<< 8 ||| c := Nat.shiftLeft_add_eq_or_of_lt (by omega) m
  rw [Nat.shiftLeft_eq] at e
  rw [show ((m : Int) * 256) = ((m * 2 ^ 8 : Nat) : Int) from by simp, or_i64 _ _ (by omega) (by omega), ← e]
  congr 1; omega

set_option maxRecDepth 100000 in
theorem rnum_loop (w : World) (b : Nat) (s : ByteArray) (at_ : Nat) (k : Int) (h : IsR w b s at_ 0) (v : Int) (hv : nbits k = v) (hv0 : (v == 0) = false) (x : ByteArray) (hx : (rraw s at_ 0 k).1 = x) (hx4 : x.size ≤ 4) :
    Calls Try.prog 25 #[.pointer (some ⟨b, 0, none⟩), .int .i64 k] w fun e w' =>
    e = .returned (.int .i64 (natOf x.data.toList)) ∧ IsR w' b s (rraw s at_ 0 k).2.1 (rraw s at_ 0 k).2.2 ∧ Keep (fun k => k = b) w w' := by
  have HR : Hid (IsR w b s at_ 0) := h
  have Hv : Hid _ := hv
  have Hx : Hid _ := hx
  have hb : (0 : Int) = 0 := rfl
  clear h hv hx hb
  go_enter Try.func25, Try.ntmps25
  go_wp2_with (first | (go_at_call 34; refine (stuck_at _ b s at_ _ false HR.out (by first | rfl | simpa using hb)).mono ?_; rintro e w' ⟨rfl, rfl⟩) | (go_at_call 33; refine (bits_is _ v _ Hv.out).mono ?_; rintro e w' ⟨rfl, rfl⟩) | (go_at_call 35; refine (rraw_any _ b s at_ 0 k HR.out).mono ?_; rintro e w1 ⟨rfl, h1, h2⟩; rw [Hx.out]; have hcv := run_bytes_of_string w1 9 51 5 x Try.underlying9 Try.underlying51 Try.underlying5; have H1 : Hid _ := h1; have H2 : Hid _ := h2; clear h1 h2))
  have hcell : ∀ j (hj : j < x.data.size), ∀ cs t fr, cs = bytesRow x (grownCap w1 x.size 0 5) → (w1.alloc (.cells cs t fr)).cell? ⟨w1.heap.size, j, none⟩ = some (.int .u8 (x.data[j].toNat : Int)) := by
    intro j hj cs t fr hcs
    rw [cell_of (heap_alloc_new w1 _), hcs, bytesRow_at _ _ _ hj]
  generalize hg : grownCap w1 x.size 0 5 = cap at hcell
  clear hcv
  generalize hW : (w1.alloc (Obj.cells (bytesRow x cap) _ _)).drew = W
  have hcellW : ∀ j (hj : j < x.data.size), W.cell? ⟨w1.heap.size, j, none⟩ = some (.int .u8 (x.data[j].toNat : Int)) := by
    intro j hj; rw [← hW]; exact hcell j hj _ _ _ rfl
  have hkeep : Keep (fun _ => False) w1 W := by rw [← hW]; exact ((Keep.refl _ _).alloc _).drew
  have HK : Hid _ := hkeep
  have HC : Hid _ := hcellW
  clear hcell hcellW hkeep hW hg
  have hsz : x.data.size = x.size := rfl
  go_loop [5, 21] (fun n i => ∃ q : Nat, q ≤ x.size ∧ i = .int .i64 q ∧ n = .int .i64 (natOf (x.data.toList.take q))) (fun _ i => x.size - (intOf i).toNat)
  case atStart => exact ⟨0, Nat.zero_le _, rfl, rfl⟩
  case round =>
    obtain ⟨q, hq, rfl, rfl⟩ := hrel
    by_cases hlt : q < x.size
    · have hc := HC.out q hlt
      have hm := natOf_lt (x.data.toList.take q)
      have hm2 : natOf (x.data.toList.take q) < 16777216 := by
        refine Nat.lt_of_lt_of_le hm (Nat.le_trans (Nat.pow_le_pow_right (by omega) (show (x.data.toList.take q).length ≤ 3 by simp; omega)) (by decide))
      have hs : Hid (natOf (x.data.toList.take (q + 1)) = 256 * natOf (x.data.toList.take q) + x.data[q].toNat) := by
        have : x.data.toList.take (q + 1) = x.data.toList.take q ++ [x.data[q]] := by
          rw [List.take_succ_eq_append_getElem (by simpa using hlt)]; rfl
        rw [this]; exact natOf_snoc _ _
      have hcb : x.data[q].toNat < 256 := x.data[q].toNat_lt
      generalize natOf (x.data.toList.take q) = m at *
      generalize x.data[q].toNat = c at *
      clear hm
      go_wp2
      refine ⟨⟨q + 1, by omega, by go_num, ?_⟩, by simp [intOf]; omega⟩
      rw [hs.out, shl_or m c hm2 hcb]
    · obtain rfl : q = x.size := by omega
      go_wp2
      go_ret
      have e : x.data.toList.take x.size = x.data.toList := List.take_of_length_le (by simp)
      exact ⟨congrArg (fun l => Ending.returned (.int .i64 (natOf l))) e, H1.out.keep HK.out id, H2.out.trans' HK.out (fun _ _ h => h) (fun _ _ h => h.elim)⟩

theorem rraw_size (s : ByteArray) (at_ : Nat) (k : Int) (hk : nbits k ≠ 0) : (rraw s at_ 0 k).1.size ≤ 4 := by
  unfold rraw
  rw [if_neg (by simp)]
  split
  · exact Nat.zero_le _
  · split
    · exact Nat.zero_le _
    · rw [ByteArray.size_extract]
      unfold nbits at hk
      have : k = 4 ∨ k = 2 ∨ k = 1 := by
        by_cases h4 : k = 4
        · omega
        by_cases h2 : k = 2
        · omega
        by_cases h1 : k = 1
        · omega
        simp [h4, h2, h1] at hk
      omega

set_option maxRecDepth 100000 in
theorem rnum_any (w : World) (b : Nat) (s : ByteArray) (at_ : Nat) (bad k : Int) (h : IsR w b s at_ bad) :
    Calls Try.prog 25 #[.pointer (some ⟨b, 0, none⟩), .int .i64 k] w fun e w' =>
    e = .returned (.int .i64 (rnum s at_ bad k).1) ∧ IsR w' b s (rnum s at_ bad k).2.1 (rnum s at_ bad k).2.2 ∧ Keep (fun k => k = b) w w' := by
  by_cases hb : bad = 0
  case neg =>
    have e : rnum s at_ bad k = (0, at_, bad) := by simp [rnum, hb]
    rw [e]
    have HR : Hid (IsR w b s at_ bad) := h
    clear h e
    go_enter Try.func25, Try.ntmps25
    go_wp2_with (first | (go_at_call 34; refine (stuck_at _ b s at_ _ true HR.out (by first | rfl | simpa using hb)).mono ?_; rintro e w' ⟨rfl, rfl⟩))
    go_ret
    exact ⟨rfl, HR.out, Keep.refl _ _⟩
  subst hb
  by_cases hk : nbits k = 0
  · have e : rnum s at_ 0 k = (0, at_, 1) := by simp [rnum, hk]
    rw [e]
    have hc0 : w.cell? ⟨b, 0, none⟩ = some (.string s) := by rw [cell_of h.blk]; rfl
    have hc1 : w.cell? ⟨b, 1, none⟩ = some (.int .i64 at_) := by rw [cell_of h.blk]; rfl
    have hc2 : w.cell? ⟨b, 2, none⟩ = some (.int .i64 0) := by rw [cell_of h.blk]; rfl
    have hc3 : w.cell? ⟨b, 3, none⟩ = some (.bool true) := by rw [cell_of h.blk]; rfl
    have hf1 : w.frozen? ⟨b, 1, none⟩ = false := free_of h.blk
    have hf2 : w.frozen? ⟨b, 2, none⟩ = false := free_of h.blk
    have hbl : b < w.heap.size := lt_of_block h.blk
    have hat := h.le
    have hsz := h.small
    unfold maxLen at hsz
    have hb : (0 : Int) = 0 := rfl
    have HR : Hid (IsR w b s at_ 0) := h
    have Hk : Hid _ := hk
    clear h e hb hk
    go_enter Try.func25, Try.ntmps25
    go_wp2_with (first | (go_at_call 34; refine (stuck_at _ b s at_ _ false HR.out (by first | rfl | simpa using hb)).mono ?_; rintro e w' ⟨rfl, rfl⟩) | (go_at_call 33; refine (bits_is _ 0 _ Hk.out).mono ?_; rintro e w' ⟨rfl, rfl⟩))
    go_ret
    exact ⟨rfl, HR.out.setBad 1, (Keep.refl _ _).setCell _ _ (fun _ => rfl)⟩
  · have e : rnum s at_ 0 k = (natOf (rraw s at_ 0 k).1.data.toList, (rraw s at_ 0 k).2.1, (rraw s at_ 0 k).2.2) := by simp [rnum, hk]
    rw [e]
    exact rnum_loop w b s at_ k h _ rfl (by simpa using hk) _ rfl (rraw_size s at_ k hk)

/-- 'Text': what it answers, and leaves. -/
def rtext (s : ByteArray) (at_ : Nat) (bad most : Int) : ByteArray × Nat × Int :=
  let x := rnum s at_ bad 2
  if x.2.2 ≠ 0 then (ByteArray.empty, x.2.1, x.2.2) else if most < (x.1 : Int) then (ByteArray.empty, x.2.1, 3) else rraw s x.2.1 x.2.2 x.1

set_option maxRecDepth 100000 in
theorem rtext_any (w : World) (b : Nat) (s : ByteArray) (at_ : Nat) (bad most : Int) (h : IsR w b s at_ bad) :
    Calls Try.prog 28 #[.pointer (some ⟨b, 0, none⟩), .int .i64 most] w fun e w' =>
    e = .returned (.string (rtext s at_ bad most).1) ∧ IsR w' b s (rtext s at_ bad most).2.1 (rtext s at_ bad most).2.2 ∧ Keep (fun k => k = b) w w' := by
  have HR : Hid (IsR w b s at_ bad) := h
  clear h
  obtain ⟨x, hx⟩ : ∃ x, rnum s at_ bad 2 = x := ⟨_, rfl⟩
  obtain ⟨n, a2, bad2⟩ := x
  have Hx : Hid _ := hx
  have hr : rtext s at_ bad most = if bad2 ≠ 0 then (ByteArray.empty, a2, bad2) else if most < (n : Int) then (ByteArray.empty, a2, 3) else rraw s a2 bad2 n := by unfold rtext; rw [hx]
  have Hr : Hid _ := hr
  clear hx hr
  by_cases hb : bad2 = 0
  · subst hb
    by_cases hm : most < (n : Int)
    · go_enter Try.func28, Try.ntmps28
      go_wp2_with (first | (go_at_call 25; refine (rnum_any _ b s at_ bad 2 HR.out).mono ?_; rw [Hx.out]; rintro e w1 ⟨rfl, h1, h2⟩; have H1 : Hid _ := h1; have H2 : Hid _ := h2; have hf1 : w1.frozen? ⟨b, 2, none⟩ = false := free_of h1.blk; have hc1 : w1.cell? ⟨b, 2, none⟩ = some (.int .i64 0) := (by rw [cell_of h1.blk]; rfl); clear h1 h2) | (go_at_call 34; refine (stuck_at _ b s a2 0 false H1.out rfl).mono ?_; rintro e w' ⟨rfl, rfl⟩))
      go_ret
      rw [Hr.out, if_neg (by simp), if_pos hm]
      exact ⟨rfl, H1.out.setBad 3, H2.out.setCell _ _ (fun _ => rfl)⟩
    · go_enter Try.func28, Try.ntmps28
      go_wp2_with (first | (go_at_call 25; refine (rnum_any _ b s at_ bad 2 HR.out).mono ?_; rw [Hx.out]; rintro e w1 ⟨rfl, h1, h2⟩; have H1 : Hid _ := h1; have H2 : Hid _ := h2; clear h1 h2) | (go_at_call 34; refine (stuck_at _ b s a2 0 false H1.out rfl).mono ?_; rintro e w' ⟨rfl, rfl⟩) | (go_at_call 35; refine (rraw_any _ b s a2 0 n H1.out).mono ?_; rintro e w2 ⟨rfl, h3, h4⟩; have H3 : Hid _ := h3; have H4 : Hid _ := h4; clear h3 h4))
      go_ret
      rw [Hr.out, if_neg (by simp), if_neg (by omega)]
      exact ⟨rfl, H3.out, H2.out.trans H4.out⟩
  · have hb' : (bad2 != 0) = true := by simpa using hb
    have Hb : Hid _ := hb'
    have Hb0 : Hid _ := hb
    clear hb hb'
    go_enter Try.func28, Try.ntmps28
    go_wp2_with (first | (go_at_call 25; refine (rnum_any _ b s at_ bad 2 HR.out).mono ?_; rw [Hx.out]; rintro e w1 ⟨rfl, h1, h2⟩; have H1 : Hid _ := h1; have H2 : Hid _ := h2; clear h1 h2) | (go_at_call 34; refine (stuck_at _ b s a2 bad2 true H1.out Hb.out).mono ?_; rintro e w' ⟨rfl, rfl⟩))
    go_ret
    rw [Hr.out, if_pos Hb0.out]
    exact ⟨rfl, H1.out, H2.out⟩
end Oct
end Go.Proofs.Ythllhjdaknmlbaa


namespace Go.Proofs.Ythllhjdaknmlbaa
open Go.RowKit
namespace Ref

theorem mk1 (u : World) : (Instr.makeSlice 51 (.int .i64 1) (.int .i64 1)).run Try.prog u = .ok (.slice (some ⟨u.heap.size, 0, none⟩) 1 1) (u.alloc (.cells #[.int .u8 0] 5)) := by kernel_rfl
theorem mk2 (u : World) : (Instr.makeSlice 51 (.int .i64 2) (.int .i64 2)).run Try.prog u = .ok (.slice (some ⟨u.heap.size, 0, none⟩) 2 2) (u.alloc (.cells #[.int .u8 0, .int .u8 0] 5)) := by kernel_rfl
theorem mk4 (u : World) : (Instr.makeSlice 51 (.int .i64 4) (.int .i64 4)).run Try.prog u = .ok (.slice (some ⟨u.heap.size, 0, none⟩) 4 4) (u.alloc (.cells #[.int .u8 0, .int .u8 0, .int .u8 0, .int .u8 0] 5)) := by kernel_rfl

theorem conv_new (w : World) (l : List UInt8) (cs : Array Value) (hcs : cs = (l.map Oct.bv).toArray) (n : Nat) (hn : n = l.length) (hl : l ≠ []) (hm : l.length ≤ 100) :
    (convert 51 9 (.slice (some ⟨w.heap.size, 0, none⟩) n n)).run Try.prog (w.alloc (.cells cs 5)) = .ok (.string ⟨l.toArray⟩) (w.alloc (.cells cs 5)) := by
  refine Oct.own_string _ l _ ⟨by simp, .inr ⟨w.heap.size, n, cs, ?_, Nat.zero_le _, heap_alloc_new w _, by omega, by unfold maxLen; omega, by rw [hcs]; simp; omega, ?_⟩⟩
  · rw [hn]
  · rw [hcs]; simp only [Nat.mul_one]; exact List.take_of_length_le (by simp)

theorem bv_mod (x : Int) : Value.int .u8 (x % 256) = Oct.bv (UInt8.ofNat (x % 256).toNat) := by
  have : (UInt8.ofNat (x % 256).toNat).toNat = (x % 256).toNat := by rw [UInt8.toNat_ofNat']; omega
  rw [Oct.bv, this]; congr 1; omega

/-- What the document's 'Num' answers. -/
def rn (n k : Int) : List UInt8 × Int := if Oct.nbits k = 0 then ([], 1) else if n < 0 ∨ 256 ^ (Oct.nbits k / 8).toNat ≤ n then ([], 5) else (Oct.be (Oct.nbits k / 8).toNat n, 0)

theorem nbits_zero {k : Int} (h : Oct.nbits k = 0) : k ≠ 1 ∧ k ≠ 2 ∧ k ≠ 4 :=
  ⟨fun e => by subst e; simp [Oct.nbits] at h, fun e => by subst e; simp [Oct.nbits] at h, fun e => by subst e; simp [Oct.nbits] at h⟩
theorem nbits_some {k : Int} (h : Oct.nbits k ≠ 0) : k = 1 ∨ k = 2 ∨ k = 4 := by
  unfold Oct.nbits at h
  by_cases h4 : k = 4
  · omega
  by_cases h2 : k = 2
  · omega
  by_cases h1 : k = 1
  · omega
  simp [h4, h2, h1] at h

/-- What the document's 'Text' answers. -/
def rt (s : ByteArray) : ByteArray × Int := if 65535 < s.size then (ByteArray.empty, 3) else (⟨(Oct.be 2 s.size).toArray⟩ ++ s, 0)

end Ref
end Go.Proofs.Ythllhjdaknmlbaa


namespace Go.Proofs.Ythllhjdaknmlbaa
open Go.RowKit
namespace Ref

def xraw (s : ByteArray) (e n : Int) : ByteArray × ByteArray × Int :=
  if e ≠ 0 then (ByteArray.empty, s, e) else if n < 0 then (ByteArray.empty, s, 1) else if (s.size : Int) < n then (ByteArray.empty, s, 2) else (s.extract 0 n.toNat, s.extract n.toNat s.size, 0)

def xnum (s : ByteArray) (e k : Int) : Nat × ByteArray × Int :=
  let e1 := if e = 0 ∧ Oct.nbits k = 0 then 1 else e
  let x := xraw s e1 (max 0 (min k 4))
  (Oct.natOf x.1.data.toList, x.2.1, x.2.2)

theorem xraw_size (s : ByteArray) (e k : Int) : (xraw s e (max 0 (min k 4))).1.size ≤ 4 := by
  unfold xraw
  split
  · exact Nat.zero_le _
  · split
    · exact Nat.zero_le _
    · split
      · exact Nat.zero_le _
      · rw [ByteArray.size_extract]; omega

def xtext (s : ByteArray) (e most : Int) : ByteArray × ByteArray × Int :=
  let x := xnum s e 2
  if x.2.2 ≠ 0 then (ByteArray.empty, x.2.1, x.2.2) else if most < (x.1 : Int) then (ByteArray.empty, x.2.1, 3) else xraw x.2.1 x.2.2 x.1

/-- What 'End' answers. -/
def xendv (s : ByteArray) (e : Int) : Int := if e = 0 then (if s.size = 0 then 0 else 4) else e
end Ref
end Go.Proofs.Ythllhjdaknmlbaa


namespace Go.Proofs.Ythllhjdaknmlbaa
open Go.RowKit
namespace OctRd
open Oct Ref

theorem ext_ext (s : ByteArray) (a n : Nat) (h : a + n ≤ s.size) : (s.extract a s.size).extract 0 n = s.extract a (a + n) := by
  rw [ByteArray.extract_extract]
  congr 1 <;> omega
theorem ext_ext2 (s : ByteArray) (a n : Nat) (h : a + n ≤ s.size) : (s.extract a s.size).extract n (s.extract a s.size).size = s.extract (a + n) s.size := by
  rw [ByteArray.extract_extract, ByteArray.size_extract]
  congr 1
  omega
theorem rraw_le (s : ByteArray) (a : Nat) (bad n : Int) (h : a ≤ s.size) : (rraw s a bad n).2.1 ≤ s.size := by
  unfold rraw
  split
  · exact h
  · split
    · exact h
    · split
      · exact h
      · simp only; omega
theorem rnum_le (s : ByteArray) (a : Nat) (bad n : Int) (h : a ≤ s.size) : (rnum s a bad n).2.1 ≤ s.size := by
  unfold rnum
  split
  · exact h
  · split
    · exact h
    · exact rraw_le s a 0 n h
theorem raw_law (s : ByteArray) (a : Nat) (bad n : Int) (h : a ≤ s.size) : xraw (s.extract a s.size) bad n = ((rraw s a bad n).1, s.extract (rraw s a bad n).2.1 s.size, (rraw s a bad n).2.2) := by
  unfold xraw rraw
  have hs : (s.extract a s.size).size = s.size - a := by rw [ByteArray.size_extract]; omega
  by_cases hb : bad = 0
  · by_cases hn : n < 0
    · simp [hb, hn]
    · by_cases hl : (s.size : Int) - a < n
      · have hl2 : ((s.extract a s.size).size : Int) < n := by rw [hs]; omega
        rw [if_neg (by simp [hb]), if_neg hn, if_pos hl2, if_neg (by simp [hb]), if_neg hn, if_pos hl]
      · have hl2 : ¬ ((s.extract a s.size).size : Int) < n := by rw [hs]; omega
        rw [if_neg (by simp [hb]), if_neg hn, if_neg hl2, if_neg (by simp [hb]), if_neg hn, if_neg hl, ext_ext s a n.toNat (by omega), ext_ext2 s a n.toNat (by omega)]
  · simp [hb]
theorem num_law (s : ByteArray) (a : Nat) (bad k : Int) (h : a ≤ s.size) : xnum (s.extract a s.size) bad k = ((rnum s a bad k).1, s.extract (rnum s a bad k).2.1 s.size, (rnum s a bad k).2.2) := by
  unfold xnum rnum
  by_cases hb : bad = 0
  · by_cases hk : nbits k = 0
    · simp only [hb, hk, and_self, if_true, ne_eq, not_true_eq_false, if_false]
      unfold xraw
      simp [natOf]
    · have hm : max 0 (min k 4) = k := by rcases nbits_some hk with rfl | rfl | rfl <;> decide
      simp only [hb, hk, and_false, if_false, ne_eq, not_true_eq_false, hm]
      rw [raw_law s a 0 k h]
  · simp only [hb, false_and, if_false, ne_eq, not_false_eq_true, if_true]
    unfold xraw
    simp [hb, natOf]
theorem text_law (s : ByteArray) (a : Nat) (bad m : Int) (h : a ≤ s.size) : xtext (s.extract a s.size) bad m = ((rtext s a bad m).1, s.extract (rtext s a bad m).2.1 s.size, (rtext s a bad m).2.2) := by
  unfold xtext rtext
  have hl := rnum_le s a bad 2 h
  rw [num_law s a bad 2 h]
  generalize rnum s a bad 2 = z at *
  obtain ⟨n, a2, b2⟩ := z
  simp only at hl ⊢
  by_cases hb : b2 = 0
  · by_cases hn : m < (n : Int)
    · simp [hb, hn]
    · simp only [hb, hn, ne_eq, not_true_eq_false, if_false]
      exact raw_law s a2 0 n hl
  · simp [hb]
theorem be_len : ∀ (m : Nat) (n : Int), (be m n).length = m
  | 0, _ => rfl
  | m + 1, n => by simp [be, be_len m]
theorem natOf_be : ∀ (m : Nat) (n : Int), 0 ≤ n → n < 256 ^ m → (natOf (be m n) : Int) = n
  | 0, n, h0, h => by simp at h; simp [be, natOf]; omega
  | m + 1, n, h0, h => by
    have hd : n / 256 < 256 ^ m := by
      rw [Int.pow_succ] at h
      omega
    have ih := natOf_be m (n / 256) (by omega) hd
    have e : be (m + 1) n = be m (n / 256) ++ [UInt8.ofNat (n % 256).toNat] := rfl
    rw [e, natOf_snoc]
    have hb : ((UInt8.ofNat (n % 256).toNat).toNat : Int) = n % 256 := by rw [UInt8.toNat_ofNat']; omega
    omega
theorem be_natOf : ∀ (m : Nat) (l : List UInt8), l.length = m → be m (natOf l) = l
  | 0, l, h => by simp [List.length_eq_zero_iff.1 h, be]
  | m + 1, l, h => by
    have hne : l ≠ [] := by intro e; simp [e] at h
    obtain ⟨l', c, rfl⟩ : ∃ l' c, l = l' ++ [c] := ⟨l.dropLast, l.getLast hne, (List.dropLast_concat_getLast hne).symm⟩
    have hl : l'.length = m := by simpa using h
    have hc : c.toNat < 256 := c.toNat_lt
    have e : ∀ n : Int, be (m + 1) n = be m (n / 256) ++ [UInt8.ofNat (n % 256).toNat] := fun _ => rfl
    rw [e, natOf_snoc]
    have h1 : ((256 * natOf l' + c.toNat : Nat) : Int) / 256 = (natOf l' : Int) := by omega
    have h2 : (((256 * natOf l' + c.toNat : Nat) : Int) % 256).toNat = c.toNat := by omega
    rw [h1, h2, be_natOf m l' hl]
    simp
end OctRd
end Go.Proofs.Ythllhjdaknmlbaa
