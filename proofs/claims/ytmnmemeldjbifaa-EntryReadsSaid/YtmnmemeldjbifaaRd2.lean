import Derived.Test.YtmnmemeldjbifaaRd1
import Derived.IntWalk
set_option linter.unusedVariables false
set_option linter.unusedSimpArgs false
namespace Go.Proofs.Ytmnmemeldjbifaa
open Go.RowKit
namespace Oct

set_option maxRecDepth 100000 in
theorem rraw_short (w : World) (b : Nat) (s : ByteArray) (at_ : Nat) (n : Int) (h : IsR w b s at_ 0) (hn0 : 0 ≤ n) (hn : (s.size : Int) - at_ < n) : Calls Try.prog 69 #[.pointer (some ⟨b, 0, none⟩), .int .i64 n] w fun e w' => e = .returned (.string ByteArray.empty) ∧ IsR w' b s at_ 2 ∧ Keep (fun k => k = b) w w' := by
  have hc0 : w.cell? ⟨b, 0, none⟩ = some (.string s) := by rw [cell_of h.blk]; rfl
  have hc1 : w.cell? ⟨b, 1, none⟩ = some (.int .i64 at_) := by rw [cell_of h.blk]; rfl
  have hc2 : w.cell? ⟨b, 2, none⟩ = some (.int .i64 0) := by rw [cell_of h.blk]; rfl
  have hc3 : w.cell? ⟨b, 3, none⟩ = some (.bool true) := by rw [cell_of h.blk]; rfl
  have hf1 : w.frozen? ⟨b, 1, none⟩ = false := free_of h.blk
  have hf2 : w.frozen? ⟨b, 2, none⟩ = false := free_of h.blk
  have hbl : b < w.heap.size := lt_of_block h.blk
  have hat := h.le
  have hsz := h.small
  unfold maxLen at hsz
  have hw1 : IntKind.i64.wrap ((s.size : Int) - at_) = (s.size : Int) - at_ := IntWalk.i64_in _ (by omega)
  have hw2 : IntKind.i64.wrap (at_ : Int) = at_ := IntWalk.i64_in _ (by omega)
  have HR : Hid (IsR w b s at_ 0) := h
  clear h
  go_enter Try.func69, Try.ntmps69
  go_wp2_with (first | (go_at_call 67; refine (stuck_at _ b s at_ _ false HR.out (by first | rfl | simpa using hb)).mono ?_; rintro e w' ⟨rfl, rfl⟩))
  refine Txt.wp_region_text (fun _ => True) [0, 0, 0, 0, 1, 0, 0, 0, 0, 1, 0, 0, 0] (by kernel_rfl) (by kernel_rfl) trivial ?_
  repeat (first
    | (refine Txt.tl_pure (v := ?_) (by rfl) ?_ ?_; rotate_left; (focus (intro _; go_simp; try with_reducible rfl)); simp only [Act.put, List.setIfInBounds_toArray, List.set_cons_zero, List.set_cons_succ])
    | (refine Txt.tl_skip (by rfl) trivial ?_; simp only [Act.put, List.setIfInBounds_toArray, List.set_cons_zero, List.set_cons_succ])
    | (refine Txt.tl_load (v := ?_) (by rfl) (by rfl) (by rfl) (by kernel_rfl) ?_ ?_; rotate_left; (focus (first | assumption | (go_simp; done) | (go_simp; with_reducible rfl))); simp only [Act.put, List.setIfInBounds_toArray, List.set_cons_zero, List.set_cons_succ])
    | (refine Txt.tl_alloc (by rfl) ?_; go_simp; refine ⟨by (first | exact Txt.Le.alloc_drew _ _ | exact Txt.Le.alloc _ _), ?_⟩))
  refine Txt.tl_nil ?_
  go_wp2
  go_ret
  exact ⟨rfl, (HR.out.keep (Keep.refl (fun _ => False) _).drew id).setBad 2, ((Keep.refl _ _).drew).setCell _ _ (fun _ => rfl)⟩

set_option maxRecDepth 100000 in
theorem rraw_ok (w : World) (b : Nat) (s : ByteArray) (at_ n : Nat) (h : IsR w b s at_ 0) (hn : at_ + n ≤ s.size) : Calls Try.prog 69 #[.pointer (some ⟨b, 0, none⟩), .int .i64 n] w fun e w' => e = .returned (.string (s.extract at_ (at_ + n))) ∧ IsR w' b s (at_ + n) 0 ∧ Keep (fun k => k = b) w w' := by
  have hc0 : w.cell? ⟨b, 0, none⟩ = some (.string s) := by rw [cell_of h.blk]; rfl
  have hc1 : w.cell? ⟨b, 1, none⟩ = some (.int .i64 at_) := by rw [cell_of h.blk]; rfl
  have hc2 : w.cell? ⟨b, 2, none⟩ = some (.int .i64 0) := by rw [cell_of h.blk]; rfl
  have hc3 : w.cell? ⟨b, 3, none⟩ = some (.bool true) := by rw [cell_of h.blk]; rfl
  have hf1 : w.frozen? ⟨b, 1, none⟩ = false := free_of h.blk
  have hf2 : w.frozen? ⟨b, 2, none⟩ = false := free_of h.blk
  have hbl : b < w.heap.size := lt_of_block h.blk
  have hat := h.le
  have hsz := h.small
  unfold maxLen at hsz
  have hw1 : IntKind.i64.wrap ((s.size : Int) - at_) = (s.size : Int) - at_ := IntWalk.i64_in _ (by omega)
  have hw2 : IntKind.i64.wrap (at_ : Int) = at_ := IntWalk.i64_in _ (by omega)
  have HR : Hid (IsR w b s at_ 0) := h
  clear h
  go_enter Try.func69, Try.ntmps69
  go_wp2_with (first | (go_at_call 67; refine (stuck_at _ b s at_ _ false HR.out (by first | rfl | simpa using hb)).mono ?_; rintro e w' ⟨rfl, rfl⟩))
  refine Txt.wp_region_text (fun _ => True) [0, 0, 0, 0, 1, 0, 0, 0, 0, 1, 0, 0, 0] (by kernel_rfl) (by kernel_rfl) trivial ?_
  repeat (first
    | (refine Txt.tl_pure (v := ?_) (by rfl) ?_ ?_; rotate_left; (focus (intro _; go_simp; try with_reducible rfl)); simp only [Act.put, List.setIfInBounds_toArray, List.set_cons_zero, List.set_cons_succ])
    | (refine Txt.tl_skip (by rfl) trivial ?_; simp only [Act.put, List.setIfInBounds_toArray, List.set_cons_zero, List.set_cons_succ])
    | (refine Txt.tl_load (v := ?_) (by rfl) (by rfl) (by rfl) (by kernel_rfl) ?_ ?_; rotate_left; (focus (first | assumption | (go_simp; done) | (go_simp; with_reducible rfl))); simp only [Act.put, List.setIfInBounds_toArray, List.set_cons_zero, List.set_cons_succ])
    | (refine Txt.tl_alloc (by rfl) ?_; go_simp; refine ⟨by (first | exact Txt.Le.alloc_drew _ _ | exact Txt.Le.alloc _ _), ?_⟩))
  refine Txt.tl_nil ?_
  go_wp2
  have h1 : (w.setCell ⟨b, 1, none⟩ (.int .i64 ((at_ : Int) + n))).heap[b]? = some (.cells #[.string s, .int .i64 ((at_ : Int) + n), .int .i64 0, .bool true] 103 (0, 0)) := by
    rw [block_set HR.out.blk]; rfl
  have e0 : (w.setCell ⟨b, 1, none⟩ (.int .i64 ((at_ : Int) + n))).cell? ⟨b, 0, none⟩ = some (.string s) := by rw [cell_of h1]; rfl
  have e1 : (w.setCell ⟨b, 1, none⟩ (.int .i64 ((at_ : Int) + n))).cell? ⟨b, 1, none⟩ = some (.int .i64 ((at_ : Int) + n)) := by rw [cell_of h1]; rfl
  clear h1
  have b1 : (0 : Int) ≤ (at_ : Int) := by omega
  have b2 : (at_ : Int) ≤ (at_ : Int) + n := by omega
  have b3 : (at_ : Int) + n ≤ (s.size : Int) := by omega
  have b4 : (0 : Int) ≤ (at_ : Int) + n := by omega
  refine Txt.wp_region_text (fun _ => True) [0, 0, 0, 1, 0, 0, 0, 1, 0, 0, 0, 0, 0, 1, 0, 0] (by kernel_rfl) (by kernel_rfl) trivial ?_
  repeat (first
    | (refine Txt.tl_pure (v := ?_) (by rfl) ?_ ?_; rotate_left; (focus (intro _; go_simp; try with_reducible rfl)); simp only [Act.put, List.setIfInBounds_toArray, List.set_cons_zero, List.set_cons_succ])
    | (refine Txt.tl_skip (by rfl) trivial ?_; simp only [Act.put, List.setIfInBounds_toArray, List.set_cons_zero, List.set_cons_succ])
    | (refine Txt.tl_load (v := ?_) (by rfl) (by rfl) (by rfl) (by kernel_rfl) ?_ ?_; rotate_left; (focus (first | assumption | (go_simp; done) | (go_simp; with_reducible rfl))); simp only [Act.put, List.setIfInBounds_toArray, List.set_cons_zero, List.set_cons_succ])
    | (refine Txt.tl_alloc (by rfl) ?_; go_simp; refine ⟨by (first | exact Txt.Le.alloc_drew _ _ | exact Txt.Le.alloc _ _), ?_⟩))
  refine Txt.tl_nil ?_
  go_wp2
  go_ret
  have hAt := HR.out.setAt (at_ + n) (by omega)
  rw [Int.natCast_add] at hAt
  refine ⟨?_, ⟨hAt.blk, by omega, by unfold maxLen; omega⟩, (((Keep.refl (fun k => k = b) _).setCell _ _ (fun _ => rfl)).drew).drew⟩
  show Ending.returned (.string (s.extract at_ ((at_ : Int) + n).toNat)) = _
  rw [show ((at_ : Int) + n).toNat = at_ + n from by omega]

/-- What 'Raw' answers, and leaves. -/
def rraw (s : ByteArray) (at_ : Nat) (bad n : Int) : ByteArray × Nat × Int :=
  if bad ≠ 0 then (ByteArray.empty, at_, bad) else if n < 0 then (ByteArray.empty, at_, 1) else if (s.size : Int) - at_ < n then (ByteArray.empty, at_, 2) else (s.extract at_ (at_ + n.toNat), at_ + n.toNat, 0)

theorem rraw_any (w : World) (b : Nat) (s : ByteArray) (at_ : Nat) (bad n : Int) (h : IsR w b s at_ bad) : Calls Try.prog 69 #[.pointer (some ⟨b, 0, none⟩), .int .i64 n] w fun e w' =>
    e = .returned (.string (rraw s at_ bad n).1) ∧ IsR w' b s (rraw s at_ bad n).2.1 (rraw s at_ bad n).2.2 ∧ Keep (fun k => k = b) w w' := by
  by_cases hb : bad = 0
  case neg =>
    have e : rraw s at_ bad n = (ByteArray.empty, at_, bad) := by simp [rraw, hb]
    rw [e]
    refine (rraw_bad w b s at_ bad n h hb).mono ?_
    rintro e w' ⟨rfl, rfl⟩
    exact ⟨rfl, h, Keep.refl _ _⟩
  subst hb
  by_cases hn : n < 0
  · have e : rraw s at_ 0 n = (ByteArray.empty, at_, 1) := by simp [rraw, hn]
    rw [e]
    exact rraw_neg w b s at_ n h hn
  by_cases hl : (s.size : Int) - at_ < n
  · have e : rraw s at_ 0 n = (ByteArray.empty, at_, 2) := by simp [rraw, hn, hl]
    rw [e]
    exact rraw_short w b s at_ n h (by omega) hl
  obtain ⟨m, rfl⟩ := Int.eq_ofNat_of_zero_le (show 0 ≤ n by omega)
  have e : rraw s at_ 0 m = (s.extract at_ (at_ + m), at_ + m, 0) := by simp [rraw, hn, hl]
  rw [e]
  exact rraw_ok w b s at_ m h (by omega)

/-- The number of bytes, the highest first. -/
def natOf (l : List UInt8) : Nat := l.foldl (fun n c => 256 * n + c.toNat) 0
theorem natOf_snoc (l : List UInt8) (c : UInt8) : natOf (l ++ [c]) = 256 * natOf l + c.toNat := by simp [natOf, List.foldl_append]
theorem natOf_lt' : ∀ (l : List UInt8) (a n : Nat), a < 256 ^ n → l.foldl (fun n c => 256 * n + c.toNat) a < 256 ^ (n + l.length)
  | [], _, _, h => h
  | c :: l, a, n, h => by
    have := natOf_lt' l (256 * a + c.toNat) (n + 1) (by rw [Nat.pow_succ]; have := c.toNat_lt; omega)
    rw [List.length_cons, show n + (l.length + 1) = n + 1 + l.length from by omega]
    exact this
theorem natOf_lt (l : List UInt8) : natOf l < 256 ^ l.length := by
  have := natOf_lt' l 0 0 (by simp)
  rw [Nat.zero_add] at this
  exact this
set_option maxRecDepth 100000 in
theorem left_any (w : World) (b : Nat) (s : ByteArray) (at_ : Nat) (bad : Int) (h : IsR w b s at_ bad) : Calls Try.prog 75 #[.pointer (some ⟨b, 0, none⟩)] w fun e w' =>
    e = .returned (.int .i64 (if bad = 0 then (s.size : Int) - at_ else 0)) ∧ Keep (fun _ => False) w w' := by
  have hc0 : w.cell? ⟨b, 0, none⟩ = some (.string s) := by rw [cell_of h.blk]; rfl
  have hc1 : w.cell? ⟨b, 1, none⟩ = some (.int .i64 at_) := by rw [cell_of h.blk]; rfl
  have hc2 : w.cell? ⟨b, 2, none⟩ = some (.int .i64 bad) := by rw [cell_of h.blk]; rfl
  have hc3 : w.cell? ⟨b, 3, none⟩ = some (.bool true) := by rw [cell_of h.blk]; rfl
  have hf1 : w.frozen? ⟨b, 1, none⟩ = false := free_of h.blk
  have hf2 : w.frozen? ⟨b, 2, none⟩ = false := free_of h.blk
  have hbl : b < w.heap.size := lt_of_block h.blk
  have hat := h.le
  have hsz := h.small
  unfold maxLen at hsz
  have HR : Hid (IsR w b s at_ bad) := h
  have hw1 : IntKind.i64.wrap ((s.size : Int) - at_) = (s.size : Int) - at_ := IntWalk.i64_in _ (by omega)
  clear h
  by_cases hb : bad = 0
  · subst hb
    go_enter Try.func75, Try.ntmps75
    go_wp2_with (first | (go_at_call 67; refine (stuck_at _ b s at_ _ false HR.out (by first | rfl | simpa using hb)).mono ?_; rintro e w' ⟨rfl, rfl⟩))
    refine Txt.wp_region_text (fun _ => True) [0, 0, 0, 1, 0, 0, 0, 0, 1, 0, 0] (by kernel_rfl) (by kernel_rfl) trivial ?_
    repeat (first
      | (refine Txt.tl_pure (v := ?_) (by rfl) ?_ ?_; rotate_left; (focus (intro _; go_simp; try with_reducible rfl)); simp only [Act.put, List.setIfInBounds_toArray, List.set_cons_zero, List.set_cons_succ])
      | (refine Txt.tl_skip (by rfl) trivial ?_; simp only [Act.put, List.setIfInBounds_toArray, List.set_cons_zero, List.set_cons_succ])
      | (refine Txt.tl_load (v := ?_) (by rfl) (by rfl) (by rfl) (by kernel_rfl) ?_ ?_; rotate_left; (focus (first | assumption | (go_simp; done) | (go_simp; with_reducible rfl))); simp only [Act.put, List.setIfInBounds_toArray, List.set_cons_zero, List.set_cons_succ])
      | (refine Txt.tl_alloc (by rfl) ?_; go_simp; refine ⟨by (first | exact Txt.Le.alloc_drew _ _ | exact Txt.Le.alloc _ _), ?_⟩))
    refine Txt.tl_nil ?_
    go_wp2
    go_ret
    exact ⟨rfl, (Keep.refl _ _).drew⟩
  · go_enter Try.func75, Try.ntmps75
    go_wp2_with (first | (go_at_call 67; refine (stuck_at _ b s at_ _ true HR.out (by first | rfl | simpa using hb)).mono ?_; rintro e w' ⟨rfl, rfl⟩))
    go_ret
    exact ⟨by simp [hb], Keep.refl _ _⟩
set_option maxRecDepth 100000 in
theorem end_any (w : World) (b : Nat) (s : ByteArray) (at_ : Nat) (bad : Int) (h : IsR w b s at_ bad) : Calls Try.prog 38 #[.pointer (some ⟨b, 0, none⟩)] w fun e w' =>
    e = .returned (.int .i64 (if bad = 0 then (if at_ = s.size then 0 else 4) else bad)) ∧ Keep (fun _ => False) w w' := by
  have hc0 : w.cell? ⟨b, 0, none⟩ = some (.string s) := by rw [cell_of h.blk]; rfl
  have hc1 : w.cell? ⟨b, 1, none⟩ = some (.int .i64 at_) := by rw [cell_of h.blk]; rfl
  have hc2 : w.cell? ⟨b, 2, none⟩ = some (.int .i64 bad) := by rw [cell_of h.blk]; rfl
  have hc3 : w.cell? ⟨b, 3, none⟩ = some (.bool true) := by rw [cell_of h.blk]; rfl
  have hf1 : w.frozen? ⟨b, 1, none⟩ = false := free_of h.blk
  have hf2 : w.frozen? ⟨b, 2, none⟩ = false := free_of h.blk
  have hbl : b < w.heap.size := lt_of_block h.blk
  have hat := h.le
  have hsz := h.small
  unfold maxLen at hsz
  have HR : Hid (IsR w b s at_ bad) := h
  clear h
  by_cases hb : bad = 0
  · subst hb
    by_cases he : at_ = s.size
    · have he' : ((at_ : Int) == (s.size : Int)) = true := by rw [beq_iff_eq]; omega
      have He : Hid _ := he
      clear he
      go_enter Try.func38, Try.ntmps38
      go_wp2_with (first | (go_at_call 34; refine (err_any _ _ _ _ _ HR.out).mono ?_; rintro e w' ⟨rfl, rfl⟩))
      refine Txt.wp_region_text (fun _ => True) [0, 0, 0, 0, 0, 0, 1, 0, 0, 0, 1, 0, 0, 0] (by kernel_rfl) (by kernel_rfl) trivial ?_
      repeat (first
        | (refine Txt.tl_pure (v := ?_) (by rfl) ?_ ?_; rotate_left; (focus (intro _; go_simp; try with_reducible rfl)); simp only [Act.put, List.setIfInBounds_toArray, List.set_cons_zero, List.set_cons_succ])
        | (refine Txt.tl_skip (by rfl) trivial ?_; simp only [Act.put, List.setIfInBounds_toArray, List.set_cons_zero, List.set_cons_succ])
        | (refine Txt.tl_load (v := ?_) (by rfl) (by rfl) (by rfl) (by kernel_rfl) ?_ ?_; rotate_left; (focus (first | assumption | (go_simp; done) | (go_simp; with_reducible rfl))); simp only [Act.put, List.setIfInBounds_toArray, List.set_cons_zero, List.set_cons_succ])
        | (refine Txt.tl_alloc (by rfl) ?_; go_simp; refine ⟨by (first | exact Txt.Le.alloc_drew _ _ | exact Txt.Le.alloc _ _), ?_⟩))
      refine Txt.tl_nil ?_
      go_wp2
      go_ret
      exact ⟨by simp [He.out], (Keep.refl _ _).drew⟩
    · have he' : ((at_ : Int) == (s.size : Int)) = false := by simp; omega
      go_enter Try.func38, Try.ntmps38
      go_wp2_with (first | (go_at_call 34; refine (err_any _ _ _ _ _ HR.out).mono ?_; rintro e w' ⟨rfl, rfl⟩))
      refine Txt.wp_region_text (fun _ => True) [0, 0, 0, 0, 0, 0, 1, 0, 0, 0, 1, 0, 0, 0] (by kernel_rfl) (by kernel_rfl) trivial ?_
      repeat (first
        | (refine Txt.tl_pure (v := ?_) (by rfl) ?_ ?_; rotate_left; (focus (intro _; go_simp; try with_reducible rfl)); simp only [Act.put, List.setIfInBounds_toArray, List.set_cons_zero, List.set_cons_succ])
        | (refine Txt.tl_skip (by rfl) trivial ?_; simp only [Act.put, List.setIfInBounds_toArray, List.set_cons_zero, List.set_cons_succ])
        | (refine Txt.tl_load (v := ?_) (by rfl) (by rfl) (by rfl) (by kernel_rfl) ?_ ?_; rotate_left; (focus (first | assumption | (go_simp; done) | (go_simp; with_reducible rfl))); simp only [Act.put, List.setIfInBounds_toArray, List.set_cons_zero, List.set_cons_succ])
        | (refine Txt.tl_alloc (by rfl) ?_; go_simp; refine ⟨by (first | exact Txt.Le.alloc_drew _ _ | exact Txt.Le.alloc _ _), ?_⟩))
      refine Txt.tl_nil ?_
      go_wp2
      go_ret
      exact ⟨by simp [he], (Keep.refl _ _).drew⟩
  · have hb' : (bad != 0) = true := by simpa using hb
    go_enter Try.func38, Try.ntmps38
    go_wp2_with (first | (go_at_call 34; refine (err_any _ _ _ _ _ HR.out).mono ?_; rintro e w' ⟨rfl, rfl⟩))
    refine Txt.wp_region_text (fun _ => True) [0, 0, 0, 0, 0, 0, 1, 0, 0, 0, 1, 0, 0, 0] (by kernel_rfl) (by kernel_rfl) trivial ?_
    repeat (first
      | (refine Txt.tl_pure (v := ?_) (by rfl) ?_ ?_; rotate_left; (focus (intro _; go_simp; try with_reducible rfl)); simp only [Act.put, List.setIfInBounds_toArray, List.set_cons_zero, List.set_cons_succ])
      | (refine Txt.tl_skip (by rfl) trivial ?_; simp only [Act.put, List.setIfInBounds_toArray, List.set_cons_zero, List.set_cons_succ])
      | (refine Txt.tl_load (v := ?_) (by rfl) (by rfl) (by rfl) (by kernel_rfl) ?_ ?_; rotate_left; (focus (first | assumption | (go_simp; done) | (go_simp; with_reducible rfl))); simp only [Act.put, List.setIfInBounds_toArray, List.set_cons_zero, List.set_cons_succ])
      | (refine Txt.tl_alloc (by rfl) ?_; go_simp; refine ⟨by (first | exact Txt.Le.alloc_drew _ _ | exact Txt.Le.alloc _ _), ?_⟩))
    refine Txt.tl_nil ?_
    go_wp2
    go_ret
    exact ⟨by simp [hb], (Keep.refl _ _).drew⟩
end Oct
end Go.Proofs.Ytmnmemeldjbifaa
