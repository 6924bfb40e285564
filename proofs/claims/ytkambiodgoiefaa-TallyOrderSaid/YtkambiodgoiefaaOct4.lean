/-
  Contracts of New, Raw, Text, Done; of a writer that nobody made.
-/
import Derived.Test.YtkambiodgoiefaaOct3
namespace Go.Proofs.Ytkambiodgoiefaa
open Go.RowKit
namespace Oct

/-- 'none' answers yes. -/
def IsNone (p : Value) (w : World) : Prop := Calls Try.prog 31 #[p] w fun e w' => e = .returned (.bool true) ∧ w = w'
theorem none_nil (w : World) : IsNone (.pointer none) w := wnone_nil w
theorem none_zero (w : World) (b : Nat) (h : w.cell? ⟨b, 2, none⟩ = some (.bool false)) : IsNone (.pointer (some ⟨b, 0, none⟩)) w := wnone w b false h

theorem num_none (w : World) (p : Value) (n k : Int) (h : IsNone p w) : Calls Try.prog 20 #[p, .int .i64 n, .int .i64 k] w fun e w' => e = .returned p ∧ w = w' := by
  go_enter_defers Try.func20, Try.ntmps20
  go_wp2_with (first | (go_at_call 31; refine Calls.mono h ?_; rintro e w' ⟨rfl, rfl⟩))
  exact ⟨_, results_tmp rfl _ _ _, rfl, rfl⟩
theorem done_none (w : World) (p : Value) (h : IsNone p w) : Calls Try.prog 21 #[p] w fun e w' => e = .returned (.tuple #[.string ByteArray.empty, .int .i64 8]) ∧ w = w' := by
  go_enter Try.func21, Try.ntmps21
  go_wp2_with (first | (go_at_call 31; refine Calls.mono h ?_; rintro e w' ⟨rfl, rfl⟩))
  go_ret2
  exact ⟨rfl, rfl⟩

theorem new_any (w : World) : Calls Try.prog 19 #[] w fun e w' => e = .returned (.pointer (some ⟨w.heap.size, 0, none⟩)) ∧ IsW w' w.heap.size [] 0 (.slice none 0 0) ∧ Keep (fun _ => False) w w' := by
  go_enter Try.func19, Try.ntmps19
  go_wp2
  go_ret
  exact ⟨rfl, ⟨heap_alloc_new w _, World.ownsRow_nil _ _ _ _, by simp [Value.ownBlock]⟩, (Keep.refl _ _).alloc _⟩

/-- What 'Raw' and 'Text' make of it. -/
def wraw (s : List UInt8 × Int) (x : ByteArray) : List UInt8 × Int := if s.2 ≠ 0 then s else (s.1 ++ x.data.toList, 0)
def wtext (s : List UInt8 × Int) (x : ByteArray) : List UInt8 × Int := if s.2 ≠ 0 then s else if 65535 < x.size then (s.1, 3) else (s.1 ++ be 2 x.size ++ x.data.toList, 0)

theorem byteCells_bv (s : ByteArray) : byteCells s = s.data.toList.map bv := rfl

/-- The writer behind an append, the new slice stored back. -/
theorem IsW.put {w w1 : World} {b n : Nat} {bs : List UInt8} {sv v' : Value} {c : List UInt8} (h : IsW w b bs 0 sv) (ha : Appended w w1 5 1 sv v' (bs.length + n) (bs.map bv ++ c.map bv)) : IsW (w1.setCell ⟨b, 0, none⟩ v') b (bs ++ c) 0 v' := by
  have hb := lt_of_block h.blk
  have hne : v'.ownBlock ≠ some b := by
    rcases ha.at_ with e | e
    · rw [e]; exact h.ne
    · rw [e]; intro e2; simp at e2; omega
  have hc : c.length = n := by have := ha.own.1; simp at this; omega
  refine ⟨by rw [block_set (ha.keep.get h.blk h.ne)]; rfl, ?_, hne⟩
  have := (Keep.setCell (Keep.refl (fun k => k = b) w1) ⟨b, 0, none⟩ v' (fun _ => rfl)).row ha.own (fun k hk e => hne (by rw [hk, e]))
  rw [List.map_append, List.length_append, hc]; exact this
theorem IsW.putAfter {w w1 : World} {b : Nat} {sv v' : Value} {n : Nat} {xs : List Value} (ha : Appended w w1 5 1 sv v' n xs) : After w (w1.setCell ⟨b, 0, none⟩ v') b sv v' :=
  ⟨(ha.keep.mono fun _ _ h => .inr h).setCell _ _ (fun _ => .inl rfl), fun k hk => by
    rcases ha.at_ with e | e
    · exact .inl (by rw [← e]; exact hk)
    · rw [e] at hk; simp at hk; omega⟩

/-- The string of a row of bytes. -/
theorem own_string (w : World) (bs : List UInt8) (sv : Value) (h : w.ownsRow 0 5 1 sv bs.length (bs.map bv)) : (convert 69 9 sv).run Try.prog w = .ok (.string ⟨bs.toArray⟩) w := by
  rcases h.2 with ⟨rfl, h0⟩ | ⟨g, cap, cur, rfl, _, hg, _, _, _, htk⟩
  · have : bs = [] := List.eq_nil_of_length_eq_zero h0
    subst this
    exact Lib.run_convert_nil_bytes w _ _ _ 0 Try.underlying69 Try.underlying5 Try.underlying9
  · refine run_convert_bytes_back w _ _ 5 _ cap bs Try.underlying69 Try.underlying5 Try.underlying9 ?_
    exact Lib.bytes_of_row hg (by rw [Nat.mul_one] at htk; exact htk)

theorem done_any (w : World) (b : Nat) (bs : List UInt8) (bad : Int) (sv : Value) (h : IsW w b bs bad sv) :
    Calls Try.prog 21 #[.pointer (some ⟨b, 0, none⟩)] w fun e w' => e = .returned (.tuple #[.string (if bad = 0 then ⟨bs.toArray⟩ else ByteArray.empty), .int .i64 bad]) ∧ Keep (fun _ => False) w w' := by
  have hc0 : w.cell? ⟨b, 0, none⟩ = some sv := by rw [cell_of h.blk]; rfl
  have hc1 : w.cell? ⟨b, 1, none⟩ = some (.int .i64 bad) := by rw [cell_of h.blk]; rfl
  have hc2 : w.cell? ⟨b, 2, none⟩ = some (.bool true) := by rw [cell_of h.blk]; rfl
  have hbl : b < w.heap.size := lt_of_block h.blk
  by_cases hb : bad = 0
  · subst hb
    have hcv := own_string w bs sv h.own
    clear h
    go_enter Try.func21, Try.ntmps21
    go_wp2_with (first | (go_at_call 31; refine (wnone _ _ _ (by first | exact hc2 | (simp; exact hc2))).mono ?_; rintro e w' ⟨rfl, rfl⟩))
    go_ret2
    exact ⟨by simp, Keep.refl _ _⟩
  · have hb' : (bad != 0) = true := by simpa using hb
    clear h
    go_enter Try.func21, Try.ntmps21
    go_wp2_with (first | (go_at_call 31; refine (wnone _ _ _ (by first | exact hc2 | (simp; exact hc2))).mono ?_; rintro e w' ⟨rfl, rfl⟩))
    refine Txt.wp_region_text (fun _ => True) [0, 0, 0, 1, 0, 0] (by kernel_rfl) (by kernel_rfl) trivial ?_
    repeat (first
      | (refine Txt.tl_pure (v := ?_) (by rfl) ?_ ?_; rotate_left; (focus (intro _; go_simp; try with_reducible rfl)); simp only [Act.put, List.setIfInBounds_toArray, List.set_cons_zero, List.set_cons_succ])
      | (refine Txt.tl_skip (by rfl) trivial ?_; simp only [Act.put, List.setIfInBounds_toArray, List.set_cons_zero, List.set_cons_succ])
      | (refine Txt.tl_load (v := ?_) (by rfl) (by rfl) (by rfl) (by kernel_rfl) ?_ ?_; rotate_left; (focus (first | assumption | (go_simp; done) | (go_simp; with_reducible rfl))); simp only [Act.put, List.setIfInBounds_toArray, List.set_cons_zero, List.set_cons_succ])
      | (refine Txt.tl_alloc (by rfl) ?_; go_simp; refine ⟨by (first | exact Txt.Le.alloc_drew _ _ | exact Txt.Le.alloc _ _), ?_⟩))
    refine Txt.tl_nil ?_
    go_wp2
    go_ret2
    exact ⟨by simp [hb]; rfl, (Keep.refl _ _).drew⟩
end Oct
end Go.Proofs.Ytkambiodgoiefaa
