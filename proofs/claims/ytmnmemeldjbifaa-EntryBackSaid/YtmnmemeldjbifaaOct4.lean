/-
  Contracts of New, Raw, Text, Done; of a writer that nobody made.
-/
import Derived.Test.YtmnmemeldjbifaaOct3
set_option linter.unusedVariables false
set_option linter.unusedSimpArgs false
namespace Go.Proofs.Ytmnmemeldjbifaa
open Go.RowKit
namespace Oct

/-- 'none' answers yes. -/
def IsNone (p : Value) (w : World) : Prop := Calls Try.prog 71 #[p] w fun e w' => e = .returned (.bool true) ∧ w = w'
theorem none_nil (w : World) : IsNone (.pointer none) w := wnone_nil w
theorem none_zero (w : World) (b : Nat) (h : w.cell? ⟨b, 2, none⟩ = some (.bool false)) : IsNone (.pointer (some ⟨b, 0, none⟩)) w := wnone w b false h

set_option maxRecDepth 100000 in
theorem num_none (w : World) (p : Value) (n k : Int) (h : IsNone p w) : Calls Try.prog 46 #[p, .int .i64 n, .int .i64 k] w fun e w' => e = .returned p ∧ w = w' := by
  go_enter_defers Try.func46, Try.ntmps46
  go_wp2_with (first | (go_at_call 71; refine Calls.mono h ?_; rintro e w' ⟨rfl, rfl⟩))
  exact ⟨_, results_tmp rfl _ _ _, rfl, rfl⟩
set_option maxRecDepth 100000 in
theorem raw_none (w : World) (p : Value) (s : ByteArray) (h : IsNone p w) : Calls Try.prog 49 #[p, .string s] w fun e w' => e = .returned p ∧ w = w' := by
  go_enter Try.func49, Try.ntmps49
  go_wp2_with (first | (go_at_call 71; refine Calls.mono h ?_; rintro e w' ⟨rfl, rfl⟩))
  go_ret
  exact ⟨rfl, rfl⟩
set_option maxRecDepth 100000 in
theorem text_none (w : World) (p : Value) (s : ByteArray) (h : IsNone p w) : Calls Try.prog 47 #[p, .string s] w fun e w' => e = .returned p ∧ w = w' := by
  go_enter Try.func47, Try.ntmps47
  go_wp2_with (first | (go_at_call 71; refine Calls.mono h ?_; rintro e w' ⟨rfl, rfl⟩))
  go_ret
  exact ⟨rfl, rfl⟩
set_option maxRecDepth 100000 in
theorem done_none (w : World) (p : Value) (h : IsNone p w) : Calls Try.prog 48 #[p] w fun e w' => e = .returned (.tuple #[.string ByteArray.empty, .int .i64 8]) ∧ w = w' := by
  go_enter Try.func48, Try.ntmps48
  go_wp2_with (first | (go_at_call 71; refine Calls.mono h ?_; rintro e w' ⟨rfl, rfl⟩))
  go_ret2
  exact ⟨rfl, rfl⟩

set_option maxRecDepth 100000 in
theorem new_any (w : World) : Calls Try.prog 45 #[] w fun e w' => e = .returned (.pointer (some ⟨w.heap.size, 0, none⟩)) ∧ IsW w' w.heap.size [] 0 (.slice none 0 0) ∧ Keep (fun _ => False) w w' := by
  go_enter Try.func45, Try.ntmps45
  go_wp2
  go_ret
  exact ⟨rfl, ⟨heap_alloc_new w _, World.ownsRow_nil _ _ _ _, by simp [Value.ownBlock]⟩, (Keep.refl _ _).alloc _⟩

/-- What 'Raw' and 'Text' make of it. -/
def wraw (s : List UInt8 × Int) (x : ByteArray) : List UInt8 × Int := if s.2 ≠ 0 then s else (s.1 ++ x.data.toList, 0)
def wtext (s : List UInt8 × Int) (x : ByteArray) : List UInt8 × Int := if s.2 ≠ 0 then s else if 65535 < x.size then (s.1, 3) else (s.1 ++ be 2 x.size ++ x.data.toList, 0)

theorem byteCells_bv (s : ByteArray) : byteCells s = s.data.toList.map bv := rfl

/-- The writer behind an append, the new slice stored back. -/
theorem IsW.put {w w1 : World} {b n : Nat} {bs : List UInt8} {sv v' : Value} {c : List UInt8} (h : IsW w b bs 0 sv) (ha : Appended w w1 5 1 sv v' (bs.length + n) (bs.map bv ++ c.map bv)) : IsW (w1.setCell ⟨b, 0, none⟩ v') b (bs ++ c) 0 v' := by
  have hb := lt_of_block h.blk
  have hne : v'.ownBlock ≠ some b := by
    rcases ha.at_ with e | e
    · rw [e]; exact h.ne
    · rw [e]; intro e2; simp at e2; omega
  have hc : c.length = n := by have := ha.own.1; simp at this; omega
  refine ⟨by rw [block_set (ha.keep.get h.blk h.ne)]; rfl, ?_, hne⟩
  have := (Keep.setCell (Keep.refl (fun k => k = b) w1) ⟨b, 0, none⟩ v' (fun _ => rfl)).row ha.own (fun k hk e => hne (by rw [hk, e]))
  rw [List.map_append, List.length_append, hc]; exact this
theorem IsW.putAfter {w w1 : World} {b : Nat} {sv v' : Value} {n : Nat} {xs : List Value} (ha : Appended w w1 5 1 sv v' n xs) : After w (w1.setCell ⟨b, 0, none⟩ v') b sv v' :=
  ⟨(ha.keep.mono fun _ _ h => .inr h).setCell _ _ (fun _ => .inl rfl), fun k hk => by
    rcases ha.at_ with e | e
    · exact .inl (by rw [← e]; exact hk)
    · rw [e] at hk; simp at hk; omega⟩

set_option maxRecDepth 100000 in
theorem raw_any (w : World) (b : Nat) (bs : List UInt8) (bad : Int) (s : ByteArray) (sv : Value) (h : IsW w b bs bad sv) (hlen : bs.length + s.size ≤ 100000000000000) :
    Calls Try.prog 49 #[.pointer (some ⟨b, 0, none⟩), .string s] w fun e w' => e = .returned (.pointer (some ⟨b, 0, none⟩)) ∧
      ∃ sv', IsW w' b (wraw (bs, bad) s).1 (wraw (bs, bad) s).2 sv' ∧ After w w' b sv sv' := by
  have hc0 : w.cell? ⟨b, 0, none⟩ = some sv := by rw [cell_of h.blk]; rfl
  have hc1 : w.cell? ⟨b, 1, none⟩ = some (.int .i64 bad) := by rw [cell_of h.blk]; rfl
  have hc2 : w.cell? ⟨b, 2, none⟩ = some (.bool true) := by rw [cell_of h.blk]; rfl
  have hbl : b < w.heap.size := lt_of_block h.blk
  have hfree : w.frozen? ⟨b, 0, none⟩ = false := free_of h.blk
  by_cases hb : bad = 0
  · subst hb
    have hown := h.own
    obtain ⟨va, vc, rfl⟩ := own_form hown
    have hneb := h.ne
    have H : Hid _ := h
    clear h
    go_enter Try.func49, Try.ntmps49
    go_wp2_with (first | (go_at_call 71; refine (wnone _ _ _ (by first | exact hc2 | (simp; exact hc2))).mono ?_; rintro e w' ⟨rfl, rfl⟩) | (at_builtin; refine wpList_plain rfl (fun K hK => ?_); refine wp_app_src slU8 (by rfl) (by rfl) hown (by rfl) (Src.ofString _ Try.underlying9 s) (by unfold maxLen; omega) (by omega) ?_; intro v' w1 happ; obtain ⟨ya, yc, rfl⟩ := own_form happ.own; have hbk := happ.keep.get H.out.blk hneb; have hd1 : w1.cell? ⟨b, 0, none⟩ = some _ := (by rw [cell_of hbk]; rfl); have hz1 : w1.frozen? ⟨b, 0, none⟩ = false := free_of hbk; have HA : Hid _ := happ; clear happ hbk; refine hK _ _ ?_))
    go_ret
    refine ⟨rfl, _, IsW.put H.out HA.out, IsW.putAfter HA.out⟩
  · have hb' : (bad == 0) = false := by simpa using hb
    go_enter Try.func49, Try.ntmps49
    go_wp2_with (first | (go_at_call 71; refine (wnone _ _ _ (by first | exact hc2 | (simp; exact hc2))).mono ?_; rintro e w' ⟨rfl, rfl⟩))
    go_ret
    exact ⟨rfl, sv, by simpa [wraw, hb] using h, After.refl _ _ _⟩

set_option maxRecDepth 100000 in
theorem text_any (w : World) (b : Nat) (bs : List UInt8) (bad : Int) (s : ByteArray) (sv : Value) (h : IsW w b bs bad sv) (hlen : bs.length + s.size ≤ 100000000000) (hs : s.size ≤ maxLen) :
    Calls Try.prog 47 #[.pointer (some ⟨b, 0, none⟩), .string s] w fun e w' => e = .returned (.pointer (some ⟨b, 0, none⟩)) ∧
      ∃ sv', IsW w' b (wtext (bs, bad) s).1 (wtext (bs, bad) s).2 sv' ∧ After w w' b sv sv' := by
  unfold maxLen at hs
  have hc0 : w.cell? ⟨b, 0, none⟩ = some sv := by rw [cell_of h.blk]; rfl
  have hc1 : w.cell? ⟨b, 1, none⟩ = some (.int .i64 bad) := by rw [cell_of h.blk]; rfl
  have hc2 : w.cell? ⟨b, 2, none⟩ = some (.bool true) := by rw [cell_of h.blk]; rfl
  have hbl : b < w.heap.size := lt_of_block h.blk
  have hfree : w.frozen? ⟨b, 1, none⟩ = false := free_of h.blk
  by_cases hb : bad = 0
  · subst hb
    by_cases hl : 65535 < s.size
    · go_enter Try.func47, Try.ntmps47
      go_wp2_with (first | (go_at_call 71; refine (wnone _ _ _ (by first | exact hc2 | (simp; exact hc2))).mono ?_; rintro e w' ⟨rfl, rfl⟩))
      go_ret
      refine ⟨rfl, sv, ?_, (Keep.refl _ _).setCell _ _ (fun _ => .inl rfl), fun _ h => .inl h⟩
      have e : wtext (bs, 0) s = (bs, 3) := by simp [wtext, hl]
      rw [e]; exact h.setBad 3
    · have e : wtext (bs, 0) s = (bs ++ be 2 s.size ++ s.data.toList, 0) := by simp [wtext, hl]
      have E : Hid _ := e
      have H : Hid _ := h
      clear h e
      go_enter Try.func47, Try.ntmps47
      go_wp2_with (first | (go_at_call 71; refine (wnone _ _ _ (by first | exact hc2 | (simp; exact hc2))).mono ?_; rintro e w' ⟨rfl, rfl⟩) | (go_at_call 46; refine (num_ok2 _ b bs s.size sv H.out (by omega) (by omega) (by omega)).mono ?_; rintro e w1 ⟨rfl, sv1, h1, h2⟩; have H1 : Hid _ := h1; have H2 : Hid _ := h2; clear h1 h2) | (go_at_call 49; refine (raw_any _ b _ 0 s _ H1.out (by simp [be]; omega)).mono ?_; rintro e w2 ⟨rfl, sv2, h3, h4⟩; have H3 : Hid _ := h3; have H4 : Hid _ := h4; clear h3 h4))
      go_ret
      rw [E.out]
      exact ⟨rfl, _, H3.out, After.trans H2.out H4.out⟩
  · have hb' : (bad != 0) = true := by simpa using hb
    go_enter Try.func47, Try.ntmps47
    go_wp2_with (first | (go_at_call 71; refine (wnone _ _ _ (by first | exact hc2 | (simp; exact hc2))).mono ?_; rintro e w' ⟨rfl, rfl⟩))
    go_ret
    exact ⟨rfl, sv, by simpa [wtext, hb] using h, After.refl _ _ _⟩

/-- The string of a row of bytes. -/
theorem own_string (w : World) (bs : List UInt8) (sv : Value) (h : w.ownsRow 0 5 1 sv bs.length (bs.map bv)) : (convert 53 9 sv).run Try.prog w = .ok (.string ⟨bs.toArray⟩) w := by
  rcases h.2 with ⟨rfl, h0⟩ | ⟨g, cap, cur, rfl, _, hg, _, _, _, htk⟩
  · have : bs = [] := List.eq_nil_of_length_eq_zero h0
    subst this
    exact Lib.run_convert_nil_bytes w _ _ _ 0 Try.underlying53 Try.underlying5 Try.underlying9
  · refine run_convert_bytes_back w _ _ 5 _ cap bs Try.underlying53 Try.underlying5 Try.underlying9 ?_
    exact Lib.bytes_of_row hg (by rw [Nat.mul_one] at htk; exact htk)

set_option maxRecDepth 100000 in
theorem done_any (w : World) (b : Nat) (bs : List UInt8) (bad : Int) (sv : Value) (h : IsW w b bs bad sv) :
    Calls Try.prog 48 #[.pointer (some ⟨b, 0, none⟩)] w fun e w' => e = .returned (.tuple #[.string (if bad = 0 then ⟨bs.toArray⟩ else ByteArray.empty), .int .i64 bad]) ∧ Keep (fun _ => False) w w' := by
  have hc0 : w.cell? ⟨b, 0, none⟩ = some sv := by rw [cell_of h.blk]; rfl
  have hc1 : w.cell? ⟨b, 1, none⟩ = some (.int .i64 bad) := by rw [cell_of h.blk]; rfl
  have hc2 : w.cell? ⟨b, 2, none⟩ = some (.bool true) := by rw [cell_of h.blk]; rfl
  have hbl : b < w.heap.size := lt_of_block h.blk
  by_cases hb : bad = 0
  · subst hb
    have hcv := own_string w bs sv h.own
    clear h
    go_enter Try.func48, Try.ntmps48
    go_wp2_with (first | (go_at_call 71; refine (wnone _ _ _ (by first | exact hc2 | (simp; exact hc2))).mono ?_; rintro e w' ⟨rfl, rfl⟩))
    go_ret2
    exact ⟨by simp, Keep.refl _ _⟩
  · have hb' : (bad != 0) = true := by simpa using hb
    clear h
    go_enter Try.func48, Try.ntmps48
    go_wp2_with (first | (go_at_call 71; refine (wnone _ _ _ (by first | exact hc2 | (simp; exact hc2))).mono ?_; rintro e w' ⟨rfl, rfl⟩))
    refine Txt.wp_region_text (fun _ => True) [0, 0, 0, 1, 0, 0] (by kernel_rfl) (by kernel_rfl) trivial ?_
    repeat (first
      | (refine Txt.tl_pure (v := ?_) (by rfl) ?_ ?_; rotate_left; (focus (intro _; go_simp; try with_reducible rfl)); simp only [Act.put, List.setIfInBounds_toArray, List.set_cons_zero, List.set_cons_succ])
      | (refine Txt.tl_skip (by rfl) trivial ?_; simp only [Act.put, List.setIfInBounds_toArray, List.set_cons_zero, List.set_cons_succ])
      | (refine Txt.tl_load (v := ?_) (by rfl) (by rfl) (by rfl) (by kernel_rfl) ?_ ?_; rotate_left; (focus (first | assumption | (go_simp; done) | (go_simp; with_reducible rfl))); simp only [Act.put, List.setIfInBounds_toArray, List.set_cons_zero, List.set_cons_succ])
      | (refine Txt.tl_alloc (by rfl) ?_; go_simp; refine ⟨by (first | exact Txt.Le.alloc_drew _ _ | exact Txt.Le.alloc _ _), ?_⟩))
    refine Txt.tl_nil ?_
    go_wp2
    go_ret2
    exact ⟨by simp [hb]; rfl, (Keep.refl _ _).drew⟩
end Oct
end Go.Proofs.Ytmnmemeldjbifaa
