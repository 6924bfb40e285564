/-
  Contracts of the document's reader.
-/
import Derived.Test.YtmnmemeldjbifaaRef1
set_option linter.unusedVariables false
set_option linter.unusedSimpArgs false
namespace Go.Proofs.Ytmnmemeldjbifaa
open Go.RowKit
namespace Ref

/-- The document's reader at block b: what is left, the first error. -/
structure IsX (w : World) (b : Nat) (s : ByteArray) (e : Int) : Prop where
  blk : w.heap[b]? = some (.cells #[.string s, .int .i64 e] 76 (0, 0))
  small : s.size ≤ maxLen
theorem IsX.keep {w w' : World} {b : Nat} {s : ByteArray} {e : Int} (h : IsX w b s e) {S : Nat → Prop} (hk : Keep S w w') (h1 : ¬ S b) : IsX w' b s e := ⟨hk.get h.blk h1, h.small⟩
theorem IsX.setE {w : World} {b : Nat} {s : ByteArray} {e : Int} (h : IsX w b s e) (x : Int) : IsX (w.setCell ⟨b, 1, none⟩ (.int .i64 x)) b s x := ⟨by rw [block_set h.blk]; rfl, h.small⟩
theorem IsX.setS {w : World} {b : Nat} {s : ByteArray} {e : Int} (h : IsX w b s e) (x : ByteArray) (hx : x.size ≤ maxLen) : IsX (w.setCell ⟨b, 0, none⟩ (.string x)) b x e := ⟨by rw [block_set h.blk]; rfl, hx⟩

def xraw (s : ByteArray) (e n : Int) : ByteArray × ByteArray × Int :=
  if e ≠ 0 then (ByteArray.empty, s, e) else if n < 0 then (ByteArray.empty, s, 1) else if (s.size : Int) < n then (ByteArray.empty, s, 2) else (s.extract 0 n.toNat, s.extract n.toNat s.size, 0)

set_option maxRecDepth 100000 in
theorem xraw_any (w : World) (b : Nat) (s : ByteArray) (e n : Int) (h : IsX w b s e) : Calls Try.prog 66 #[.pointer (some ⟨b, 0, none⟩), .int .i64 n] w fun en w' =>
    en = .returned (.string (xraw s e n).1) ∧ IsX w' b (xraw s e n).2.1 (xraw s e n).2.2 ∧ Keep (fun k => k = b) w w' := by
  have hc0 : w.cell? ⟨b, 0, none⟩ = some (.string s) := by rw [cell_of h.blk]; rfl
  have hc1 : w.cell? ⟨b, 1, none⟩ = some (.int .i64 e) := by rw [cell_of h.blk]; rfl
  have hf0 : w.frozen? ⟨b, 0, none⟩ = false := free_of h.blk
  have hf1 : w.frozen? ⟨b, 1, none⟩ = false := free_of h.blk
  have hbl : b < w.heap.size := lt_of_block h.blk
  have hsz := h.small
  unfold maxLen at hsz
  have HX : Hid (IsX w b s e) := h
  clear h
  by_cases he : e = 0
  case neg =>
    have he' : (e != 0) = true := by simpa using he
    have r : xraw s e n = (ByteArray.empty, s, e) := by simp [xraw, he]
    rw [r]
    clear r he
    go_enter Try.func66, Try.ntmps66
    go_wp2
    go_ret
    exact ⟨rfl, HX.out, Keep.refl _ _⟩
  subst he
  by_cases hn : n < 0
  · have r : xraw s 0 n = (ByteArray.empty, s, 1) := by simp [xraw, hn]
    rw [r]
    clear r
    go_enter Try.func66, Try.ntmps66
    go_wp2
    go_ret
    exact ⟨rfl, HX.out.setE 1, (Keep.refl _ _).setCell _ _ (fun _ => rfl)⟩
  by_cases hl : (s.size : Int) < n
  · have r : xraw s 0 n = (ByteArray.empty, s, 2) := by simp [xraw, hn, hl]
    rw [r]
    clear r
    go_enter Try.func66, Try.ntmps66
    go_wp2
    go_ret
    exact ⟨rfl, HX.out.setE 2, (Keep.refl _ _).setCell _ _ (fun _ => rfl)⟩
  have r : xraw s 0 n = (s.extract 0 n.toNat, s.extract n.toNat s.size, 0) := by simp [xraw, hn, hl]
  rw [r]
  clear r
  go_enter Try.func66, Try.ntmps66
  go_wp2
  go_ret
  exact ⟨rfl, HX.out.setS _ (by rw [ByteArray.size_extract]; unfold maxLen; omega), (Keep.refl _ _).setCell _ _ (fun _ => rfl)⟩

def xnum (s : ByteArray) (e k : Int) : Nat × ByteArray × Int :=
  let e1 := if e = 0 ∧ Oct.nbits k = 0 then 1 else e
  let x := xraw s e1 (max 0 (min k 4))
  (Oct.natOf x.1.data.toList, x.2.1, x.2.2)

theorem xraw_size (s : ByteArray) (e k : Int) : (xraw s e (max 0 (min k 4))).1.size ≤ 4 := by
  unfold xraw
  split
  · exact Nat.zero_le _
  · split
    · exact Nat.zero_le _
    · split
      · exact Nat.zero_le _
      · rw [ByteArray.size_extract]; omega

set_option maxRecDepth 100000 in
set_option maxHeartbeats 2000000 in
/-- 'Num' behind its first test, the reader holding the error e. -/
theorem xnum_any (w : World) (b : Nat) (s : ByteArray) (e k : Int) (h : IsX w b s e) : Calls Try.prog 39 #[.pointer (some ⟨b, 0, none⟩), .int .i64 k] w fun en w' =>
    en = .returned (.int .i64 (xnum s e k).1) ∧ IsX w' b (xnum s e k).2.1 (xnum s e k).2.2 ∧ Keep (fun k => k = b) w w' := by
  have hc0 : w.cell? ⟨b, 0, none⟩ = some (.string s) := by rw [cell_of h.blk]; rfl
  have hc1 : w.cell? ⟨b, 1, none⟩ = some (.int .i64 e) := by rw [cell_of h.blk]; rfl
  have hf0 : w.frozen? ⟨b, 0, none⟩ = false := free_of h.blk
  have hf1 : w.frozen? ⟨b, 1, none⟩ = false := free_of h.blk
  have hbl : b < w.heap.size := lt_of_block h.blk
  have hsz := h.small
  unfold maxLen at hsz
  obtain ⟨m, hm⟩ : ∃ m, max 0 (min k 4) = m := ⟨_, rfl⟩
  have Hm : Hid _ := hm
  clear hm
  by_cases hbad : e = 0 ∧ Oct.nbits k = 0
  · obtain ⟨rfl, hk⟩ := hbad
    obtain ⟨h1, h2, h4⟩ := nbits_zero hk
    have r : xnum s 0 k = (Oct.natOf (xraw s 1 m).1.data.toList, (xraw s 1 m).2.1, (xraw s 1 m).2.2) := by simp [xnum, hk, Hm.out]
    have r2 : ∀ m, xraw s 1 m = (ByteArray.empty, s, 1) := fun m => by simp [xraw]
    rw [r2] at r
    rw [r]
    have e1 : (k != 1) = true := by simpa using h1
    have e2 : (k != 2) = true := by simpa using h2
    have e4 : (k != 4) = true := by simpa using h4
    have R2 : Hid _ := r2
    have HX : Hid (IsX w b s 0) := h
    clear r r2 h1 h2 h4 hk h
    have hk3 : k < 0 ∨ k = 0 ∨ (0 < k ∧ k < 4) ∨ k = 4 ∨ 4 < k := by omega
    rcases hk3 with hk | rfl | ⟨hk, hk'⟩ | rfl | hk
    case inr.inr.inr.inl => simp at e4
    all_goals
      go_enter Try.func39, Try.ntmps39
      go_wp2_with (first | (go_at_call 66; refine (xraw_any _ b s 1 _ (HX.out.setE 1)).mono ?_; rw [R2.out]; rintro en w1 ⟨rfl, g1, g2⟩; have G1 : Hid _ := g1; have G2 : Hid _ := g2; clear g1 g2))
      go_rounds 1
      go_ret
      exact ⟨rfl, G1.out, ((Keep.refl (fun k => k = b) _).setCell _ _ (fun _ => rfl)).trans G2.out⟩
  · have r : xnum s e k = (Oct.natOf (xraw s e m).1.data.toList, (xraw s e m).2.1, (xraw s e m).2.2) := by unfold xnum; rw [if_neg hbad, Hm.out]
    have hz : (xraw s e m).1.size ≤ 4 := by rw [← Hm.out]; exact xraw_size s e k
    have HX : Hid (IsX w b s e) := h
    have hd : (e == 0 && k != 1 && k != 2 && k != 4) = false := by
      by_cases he : e = 0
      · rcases nbits_some (fun hk => hbad ⟨he, hk⟩) with rfl | rfl | rfl <;> simp
      · simp [he]
    have key : ∀ x, (xraw s e m).1 = x → x.size ≤ 4 → Calls Try.prog 39 #[.pointer (some ⟨b, 0, none⟩), .int .i64 k] w fun en w' =>
        en = .returned (.int .i64 (Oct.natOf x.data.toList)) ∧ IsX w' b (xraw s e m).2.1 (xraw s e m).2.2 ∧ Keep (fun k => k = b) w w' := by
      intro x hx hx4
      have Hx : Hid _ := hx
      clear hx hz r hbad h
      by_cases he : e = 0
      · subst he
        have hk3 : k = 1 ∨ k = 2 ∨ k = 4 := by
          by_cases h1 : k = 1
          · exact .inl h1
          by_cases h2 : k = 2
          · exact .inr (.inl h2)
          by_cases h4 : k = 4
          · exact .inr (.inr h4)
          simp [h1, h2, h4] at hd
        clear hd
        have hs : x.data.size = x.size := rfl
        rcases hk3 with rfl | rfl | rfl
        · obtain rfl : m = 1 := by have := Hm.out; omega
          go_enter Try.func39, Try.ntmps39
          go_wp2_with (first | (go_at_call 66; refine (xraw_any _ b s 0 _ HX.out).mono ?_; rw [Hx.out]; rintro en w1 ⟨rfl, g1, g2⟩; have G1 : Hid _ := g1; have G2 : Hid _ := g2; clear g1 g2))
          go_loop [6, 7] (fun n i => ∃ q : Nat, q ≤ x.size ∧ i = .int .i64 q ∧ n = .int .i64 (Oct.natOf (x.data.toList.take q))) (fun _ i => x.size - (intOf i).toNat)
          case atStart => exact ⟨0, Nat.zero_le _, rfl, rfl⟩
          case round =>
            obtain ⟨q, hq, rfl, rfl⟩ := hrel
            by_cases hlt : q < x.size
            · have hm := Oct.natOf_lt (x.data.toList.take q)
              have hm2 : Oct.natOf (x.data.toList.take q) < 16777216 := by
                refine Nat.lt_of_lt_of_le hm (Nat.le_trans (Nat.pow_le_pow_right (by omega) (show (x.data.toList.take q).length ≤ 3 by simp; omega)) (by decide))
              have hs' : Hid (Oct.natOf (x.data.toList.take (q + 1)) = 256 * Oct.natOf (x.data.toList.take q) + x[q].toNat) := by
                have : x.data.toList.take (q + 1) = x.data.toList.take q ++ [x[q]] := by
                  rw [List.take_succ_eq_append_getElem (by simpa using hlt)]; rfl
                rw [this]; exact Oct.natOf_snoc _ _
              have hcb : x[q].toNat < 256 := x[q].toNat_lt
              generalize Oct.natOf (x.data.toList.take q) = mm at *
              clear hm
              go_wp2
              go_round
              case rel => exact ⟨q + 1, by omega, by go_num, by rw [hs'.out]; go_num⟩
              case measure => simp [intOf]; omega
            · obtain rfl : q = x.size := by omega
              go_wp2
              go_ret
              have e : x.data.toList.take x.size = x.data.toList := List.take_of_length_le (by simp)
              exact ⟨congrArg (fun l => Ending.returned (.int .i64 (Oct.natOf l))) e, G1.out, G2.out⟩
        · obtain rfl : m = 2 := by have := Hm.out; omega
          go_enter Try.func39, Try.ntmps39
          go_wp2_with (first | (go_at_call 66; refine (xraw_any _ b s 0 _ HX.out).mono ?_; rw [Hx.out]; rintro en w1 ⟨rfl, g1, g2⟩; have G1 : Hid _ := g1; have G2 : Hid _ := g2; clear g1 g2))
          go_loop [6, 7] (fun n i => ∃ q : Nat, q ≤ x.size ∧ i = .int .i64 q ∧ n = .int .i64 (Oct.natOf (x.data.toList.take q))) (fun _ i => x.size - (intOf i).toNat)
          case atStart => exact ⟨0, Nat.zero_le _, rfl, rfl⟩
          case round =>
            obtain ⟨q, hq, rfl, rfl⟩ := hrel
            by_cases hlt : q < x.size
            · have hm := Oct.natOf_lt (x.data.toList.take q)
              have hm2 : Oct.natOf (x.data.toList.take q) < 16777216 := by
                refine Nat.lt_of_lt_of_le hm (Nat.le_trans (Nat.pow_le_pow_right (by omega) (show (x.data.toList.take q).length ≤ 3 by simp; omega)) (by decide))
              have hs' : Hid (Oct.natOf (x.data.toList.take (q + 1)) = 256 * Oct.natOf (x.data.toList.take q) + x[q].toNat) := by
                have : x.data.toList.take (q + 1) = x.data.toList.take q ++ [x[q]] := by
                  rw [List.take_succ_eq_append_getElem (by simpa using hlt)]; rfl
                rw [this]; exact Oct.natOf_snoc _ _
              have hcb : x[q].toNat < 256 := x[q].toNat_lt
              generalize Oct.natOf (x.data.toList.take q) = mm at *
              clear hm
              go_wp2
              go_round
              case rel => exact ⟨q + 1, by omega, by go_num, by rw [hs'.out]; go_num⟩
              case measure => simp [intOf]; omega
            · obtain rfl : q = x.size := by omega
              go_wp2
              go_ret
              have e : x.data.toList.take x.size = x.data.toList := List.take_of_length_le (by simp)
              exact ⟨congrArg (fun l => Ending.returned (.int .i64 (Oct.natOf l))) e, G1.out, G2.out⟩
        · obtain rfl : m = 4 := by have := Hm.out; omega
          go_enter Try.func39, Try.ntmps39
          go_wp2_with (first | (go_at_call 66; refine (xraw_any _ b s 0 _ HX.out).mono ?_; rw [Hx.out]; rintro en w1 ⟨rfl, g1, g2⟩; have G1 : Hid _ := g1; have G2 : Hid _ := g2; clear g1 g2))
          go_loop [6, 7] (fun n i => ∃ q : Nat, q ≤ x.size ∧ i = .int .i64 q ∧ n = .int .i64 (Oct.natOf (x.data.toList.take q))) (fun _ i => x.size - (intOf i).toNat)
          case atStart => exact ⟨0, Nat.zero_le _, rfl, rfl⟩
          case round =>
            obtain ⟨q, hq, rfl, rfl⟩ := hrel
            by_cases hlt : q < x.size
            · have hm := Oct.natOf_lt (x.data.toList.take q)
              have hm2 : Oct.natOf (x.data.toList.take q) < 16777216 := by
                refine Nat.lt_of_lt_of_le hm (Nat.le_trans (Nat.pow_le_pow_right (by omega) (show (x.data.toList.take q).length ≤ 3 by simp; omega)) (by decide))
              have hs' : Hid (Oct.natOf (x.data.toList.take (q + 1)) = 256 * Oct.natOf (x.data.toList.take q) + x[q].toNat) := by
                have : x.data.toList.take (q + 1) = x.data.toList.take q ++ [x[q]] := by
                  rw [List.take_succ_eq_append_getElem (by simpa using hlt)]; rfl
                rw [this]; exact Oct.natOf_snoc _ _
              have hcb : x[q].toNat < 256 := x[q].toNat_lt
              generalize Oct.natOf (x.data.toList.take q) = mm at *
              clear hm
              go_wp2
              go_round
              case rel => exact ⟨q + 1, by omega, by go_num, by rw [hs'.out]; go_num⟩
              case measure => simp [intOf]; omega
            · obtain rfl : q = x.size := by omega
              go_wp2
              go_ret
              have e : x.data.toList.take x.size = x.data.toList := List.take_of_length_le (by simp)
              exact ⟨congrArg (fun l => Ending.returned (.int .i64 (Oct.natOf l))) e, G1.out, G2.out⟩
      · have he' : (e == 0) = false := by simpa using he
        clear he hd
        have hs : x.data.size = x.size := rfl
        have hk3 : k < 0 ∨ k = 0 ∨ (0 < k ∧ k < 4) ∨ k = 4 ∨ 4 < k := by omega
        have hM := Hm.out
        rcases hk3 with hk | rfl | ⟨hk, hk'⟩ | rfl | hk
        · obtain rfl : m = 0 := by omega
          clear hM
          go_enter Try.func39, Try.ntmps39
          go_wp2_with (first | (go_at_call 66; refine (xraw_any _ b s e _ HX.out).mono ?_; rw [Hx.out]; rintro en w1 ⟨rfl, g1, g2⟩; have G1 : Hid _ := g1; have G2 : Hid _ := g2; clear g1 g2))
          go_loop [6, 7] (fun n i => ∃ q : Nat, q ≤ x.size ∧ i = .int .i64 q ∧ n = .int .i64 (Oct.natOf (x.data.toList.take q))) (fun _ i => x.size - (intOf i).toNat)
          case atStart => exact ⟨0, Nat.zero_le _, rfl, rfl⟩
          case round =>
            obtain ⟨q, hq, rfl, rfl⟩ := hrel
            by_cases hlt : q < x.size
            · have hm := Oct.natOf_lt (x.data.toList.take q)
              have hm2 : Oct.natOf (x.data.toList.take q) < 16777216 := by
                refine Nat.lt_of_lt_of_le hm (Nat.le_trans (Nat.pow_le_pow_right (by omega) (show (x.data.toList.take q).length ≤ 3 by simp; omega)) (by decide))
              have hs' : Hid (Oct.natOf (x.data.toList.take (q + 1)) = 256 * Oct.natOf (x.data.toList.take q) + x[q].toNat) := by
                have : x.data.toList.take (q + 1) = x.data.toList.take q ++ [x[q]] := by
                  rw [List.take_succ_eq_append_getElem (by simpa using hlt)]; rfl
                rw [this]; exact Oct.natOf_snoc _ _
              have hcb : x[q].toNat < 256 := x[q].toNat_lt
              generalize Oct.natOf (x.data.toList.take q) = mm at *
              clear hm
              go_wp2
              go_round
              case rel => exact ⟨q + 1, by omega, by go_num, by rw [hs'.out]; go_num⟩
              case measure => simp [intOf]; omega
            · obtain rfl : q = x.size := by omega
              go_wp2
              go_ret
              have e : x.data.toList.take x.size = x.data.toList := List.take_of_length_le (by simp)
              exact ⟨congrArg (fun l => Ending.returned (.int .i64 (Oct.natOf l))) e, G1.out, G2.out⟩
        · obtain rfl : m = 0 := by omega
          clear hM
          go_enter Try.func39, Try.ntmps39
          go_wp2_with (first | (go_at_call 66; refine (xraw_any _ b s e _ HX.out).mono ?_; rw [Hx.out]; rintro en w1 ⟨rfl, g1, g2⟩; have G1 : Hid _ := g1; have G2 : Hid _ := g2; clear g1 g2))
          go_loop [6, 7] (fun n i => ∃ q : Nat, q ≤ x.size ∧ i = .int .i64 q ∧ n = .int .i64 (Oct.natOf (x.data.toList.take q))) (fun _ i => x.size - (intOf i).toNat)
          case atStart => exact ⟨0, Nat.zero_le _, rfl, rfl⟩
          case round =>
            obtain ⟨q, hq, rfl, rfl⟩ := hrel
            by_cases hlt : q < x.size
            · have hm := Oct.natOf_lt (x.data.toList.take q)
              have hm2 : Oct.natOf (x.data.toList.take q) < 16777216 := by
                refine Nat.lt_of_lt_of_le hm (Nat.le_trans (Nat.pow_le_pow_right (by omega) (show (x.data.toList.take q).length ≤ 3 by simp; omega)) (by decide))
              have hs' : Hid (Oct.natOf (x.data.toList.take (q + 1)) = 256 * Oct.natOf (x.data.toList.take q) + x[q].toNat) := by
                have : x.data.toList.take (q + 1) = x.data.toList.take q ++ [x[q]] := by
                  rw [List.take_succ_eq_append_getElem (by simpa using hlt)]; rfl
                rw [this]; exact Oct.natOf_snoc _ _
              have hcb : x[q].toNat < 256 := x[q].toNat_lt
              generalize Oct.natOf (x.data.toList.take q) = mm at *
              clear hm
              go_wp2
              go_round
              case rel => exact ⟨q + 1, by omega, by go_num, by rw [hs'.out]; go_num⟩
              case measure => simp [intOf]; omega
            · obtain rfl : q = x.size := by omega
              go_wp2
              go_ret
              have e : x.data.toList.take x.size = x.data.toList := List.take_of_length_le (by simp)
              exact ⟨congrArg (fun l => Ending.returned (.int .i64 (Oct.natOf l))) e, G1.out, G2.out⟩
        · obtain rfl : m = k := by omega
          clear hM
          go_enter Try.func39, Try.ntmps39
          go_wp2_with (first | (go_at_call 66; refine (xraw_any _ b s e _ HX.out).mono ?_; rw [Hx.out]; rintro en w1 ⟨rfl, g1, g2⟩; have G1 : Hid _ := g1; have G2 : Hid _ := g2; clear g1 g2))
          go_loop [6, 7] (fun n i => ∃ q : Nat, q ≤ x.size ∧ i = .int .i64 q ∧ n = .int .i64 (Oct.natOf (x.data.toList.take q))) (fun _ i => x.size - (intOf i).toNat)
          case atStart => exact ⟨0, Nat.zero_le _, rfl, rfl⟩
          case round =>
            obtain ⟨q, hq, rfl, rfl⟩ := hrel
            by_cases hlt : q < x.size
            · have hm := Oct.natOf_lt (x.data.toList.take q)
              have hm2 : Oct.natOf (x.data.toList.take q) < 16777216 := by
                refine Nat.lt_of_lt_of_le hm (Nat.le_trans (Nat.pow_le_pow_right (by omega) (show (x.data.toList.take q).length ≤ 3 by simp; omega)) (by decide))
              have hs' : Hid (Oct.natOf (x.data.toList.take (q + 1)) = 256 * Oct.natOf (x.data.toList.take q) + x[q].toNat) := by
                have : x.data.toList.take (q + 1) = x.data.toList.take q ++ [x[q]] := by
                  rw [List.take_succ_eq_append_getElem (by simpa using hlt)]; rfl
                rw [this]; exact Oct.natOf_snoc _ _
              have hcb : x[q].toNat < 256 := x[q].toNat_lt
              generalize Oct.natOf (x.data.toList.take q) = mm at *
              clear hm
              go_wp2
              go_round
              case rel => exact ⟨q + 1, by omega, by go_num, by rw [hs'.out]; go_num⟩
              case measure => simp [intOf]; omega
            · obtain rfl : q = x.size := by omega
              go_wp2
              go_ret
              have e : x.data.toList.take x.size = x.data.toList := List.take_of_length_le (by simp)
              exact ⟨congrArg (fun l => Ending.returned (.int .i64 (Oct.natOf l))) e, G1.out, G2.out⟩
        · obtain rfl : m = 4 := by omega
          clear hM
          go_enter Try.func39, Try.ntmps39
          go_wp2_with (first | (go_at_call 66; refine (xraw_any _ b s e _ HX.out).mono ?_; rw [Hx.out]; rintro en w1 ⟨rfl, g1, g2⟩; have G1 : Hid _ := g1; have G2 : Hid _ := g2; clear g1 g2))
          go_loop [6, 7] (fun n i => ∃ q : Nat, q ≤ x.size ∧ i = .int .i64 q ∧ n = .int .i64 (Oct.natOf (x.data.toList.take q))) (fun _ i => x.size - (intOf i).toNat)
          case atStart => exact ⟨0, Nat.zero_le _, rfl, rfl⟩
          case round =>
            obtain ⟨q, hq, rfl, rfl⟩ := hrel
            by_cases hlt : q < x.size
            · have hm := Oct.natOf_lt (x.data.toList.take q)
              have hm2 : Oct.natOf (x.data.toList.take q) < 16777216 := by
                refine Nat.lt_of_lt_of_le hm (Nat.le_trans (Nat.pow_le_pow_right (by omega) (show (x.data.toList.take q).length ≤ 3 by simp; omega)) (by decide))
              have hs' : Hid (Oct.natOf (x.data.toList.take (q + 1)) = 256 * Oct.natOf (x.data.toList.take q) + x[q].toNat) := by
                have : x.data.toList.take (q + 1) = x.data.toList.take q ++ [x[q]] := by
                  rw [List.take_succ_eq_append_getElem (by simpa using hlt)]; rfl
                rw [this]; exact Oct.natOf_snoc _ _
              have hcb : x[q].toNat < 256 := x[q].toNat_lt
              generalize Oct.natOf (x.data.toList.take q) = mm at *
              clear hm
              go_wp2
              go_round
              case rel => exact ⟨q + 1, by omega, by go_num, by rw [hs'.out]; go_num⟩
              case measure => simp [intOf]; omega
            · obtain rfl : q = x.size := by omega
              go_wp2
              go_ret
              have e : x.data.toList.take x.size = x.data.toList := List.take_of_length_le (by simp)
              exact ⟨congrArg (fun l => Ending.returned (.int .i64 (Oct.natOf l))) e, G1.out, G2.out⟩
        · obtain rfl : m = 4 := by omega
          clear hM
          go_enter Try.func39, Try.ntmps39
          go_wp2_with (first | (go_at_call 66; refine (xraw_any _ b s e _ HX.out).mono ?_; rw [Hx.out]; rintro en w1 ⟨rfl, g1, g2⟩; have G1 : Hid _ := g1; have G2 : Hid _ := g2; clear g1 g2))
          go_loop [6, 7] (fun n i => ∃ q : Nat, q ≤ x.size ∧ i = .int .i64 q ∧ n = .int .i64 (Oct.natOf (x.data.toList.take q))) (fun _ i => x.size - (intOf i).toNat)
          case atStart => exact ⟨0, Nat.zero_le _, rfl, rfl⟩
          case round =>
            obtain ⟨q, hq, rfl, rfl⟩ := hrel
            by_cases hlt : q < x.size
            · have hm := Oct.natOf_lt (x.data.toList.take q)
              have hm2 : Oct.natOf (x.data.toList.take q) < 16777216 := by
                refine Nat.lt_of_lt_of_le hm (Nat.le_trans (Nat.pow_le_pow_right (by omega) (show (x.data.toList.take q).length ≤ 3 by simp; omega)) (by decide))
              have hs' : Hid (Oct.natOf (x.data.toList.take (q + 1)) = 256 * Oct.natOf (x.data.toList.take q) + x[q].toNat) := by
                have : x.data.toList.take (q + 1) = x.data.toList.take q ++ [x[q]] := by
                  rw [List.take_succ_eq_append_getElem (by simpa using hlt)]; rfl
                rw [this]; exact Oct.natOf_snoc _ _
              have hcb : x[q].toNat < 256 := x[q].toNat_lt
              generalize Oct.natOf (x.data.toList.take q) = mm at *
              clear hm
              go_wp2
              go_round
              case rel => exact ⟨q + 1, by omega, by go_num, by rw [hs'.out]; go_num⟩
              case measure => simp [intOf]; omega
            · obtain rfl : q = x.size := by omega
              go_wp2
              go_ret
              have e : x.data.toList.take x.size = x.data.toList := List.take_of_length_le (by simp)
              exact ⟨congrArg (fun l => Ending.returned (.int .i64 (Oct.natOf l))) e, G1.out, G2.out⟩
    rw [r]
    exact key _ rfl hz

def xtext (s : ByteArray) (e most : Int) : ByteArray × ByteArray × Int :=
  let x := xnum s e 2
  if x.2.2 ≠ 0 then (ByteArray.empty, x.2.1, x.2.2) else if most < (x.1 : Int) then (ByteArray.empty, x.2.1, 3) else xraw x.2.1 x.2.2 x.1

set_option maxRecDepth 100000 in
theorem xtext_any (w : World) (b : Nat) (s : ByteArray) (e most : Int) (h : IsX w b s e) : Calls Try.prog 42 #[.pointer (some ⟨b, 0, none⟩), .int .i64 most] w fun en w' =>
    en = .returned (.string (xtext s e most).1) ∧ IsX w' b (xtext s e most).2.1 (xtext s e most).2.2 ∧ Keep (fun k => k = b) w w' := by
  have HX : Hid (IsX w b s e) := h
  clear h
  obtain ⟨x, hx⟩ : ∃ x, xnum s e 2 = x := ⟨_, rfl⟩
  obtain ⟨n, s2, e2⟩ := x
  have Hx : Hid _ := hx
  have hr : xtext s e most = if e2 ≠ 0 then (ByteArray.empty, s2, e2) else if most < (n : Int) then (ByteArray.empty, s2, 3) else xraw s2 e2 n := by unfold xtext; rw [hx]
  have Hr : Hid _ := hr
  clear hx hr
  by_cases he : e2 = 0
  · subst he
    by_cases hm : most < (n : Int)
    · go_enter Try.func42, Try.ntmps42
      go_wp2_with (first | (go_at_call 39; refine (xnum_any _ b s e 2 HX.out).mono ?_; rw [Hx.out]; rintro en w1 ⟨rfl, h1, h2⟩; have H1 : Hid _ := h1; have H2 : Hid _ := h2; have hf1 : w1.frozen? ⟨b, 1, none⟩ = false := free_of h1.blk; have hc1 : w1.cell? ⟨b, 1, none⟩ = some (.int .i64 _) := (by rw [cell_of h1.blk]; rfl); clear h1 h2))
      go_ret
      rw [Hr.out, if_neg (by simp), if_pos hm]
      exact ⟨rfl, H1.out.setE 3, H2.out.setCell _ _ (fun _ => rfl)⟩
    · go_enter Try.func42, Try.ntmps42
      go_wp2_with (first | (go_at_call 39; refine (xnum_any _ b s e 2 HX.out).mono ?_; rw [Hx.out]; rintro en w1 ⟨rfl, h1, h2⟩; have H1 : Hid _ := h1; have H2 : Hid _ := h2; have hf1 : w1.frozen? ⟨b, 1, none⟩ = false := free_of h1.blk; have hc1 : w1.cell? ⟨b, 1, none⟩ = some (.int .i64 _) := (by rw [cell_of h1.blk]; rfl); clear h1 h2) | (go_at_call 66; refine (xraw_any _ b s2 0 n H1.out).mono ?_; rintro en w2 ⟨rfl, h3, h4⟩; have H3 : Hid _ := h3; have H4 : Hid _ := h4; clear h3 h4))
      go_ret
      rw [Hr.out, if_neg (by simp), if_neg (by omega)]
      exact ⟨rfl, H3.out, H2.out.trans H4.out⟩
  · have he' : (e2 != 0) = true := by simpa using he
    have He : Hid _ := he
    clear he
    go_enter Try.func42, Try.ntmps42
    go_wp2_with (first | (go_at_call 39; refine (xnum_any _ b s e 2 HX.out).mono ?_; rw [Hx.out]; rintro en w1 ⟨rfl, h1, h2⟩; have H1 : Hid _ := h1; have H2 : Hid _ := h2; have hf1 : w1.frozen? ⟨b, 1, none⟩ = false := free_of h1.blk; have hc1 : w1.cell? ⟨b, 1, none⟩ = some (.int .i64 _) := (by rw [cell_of h1.blk]; rfl); clear h1 h2))
    go_ret
    rw [Hr.out, if_pos He.out]
    exact ⟨rfl, H1.out, H2.out⟩

/-- What 'End' answers. -/
def xendv (s : ByteArray) (e : Int) : Int := if e = 0 then (if s.size = 0 then 0 else 4) else e
set_option maxRecDepth 100000 in
theorem xend_any (w : World) (b : Nat) (s : ByteArray) (e : Int) (h : IsX w b s e) : Calls Try.prog 43 #[.pointer (some ⟨b, 0, none⟩)] w fun en w' =>
    en = .returned (.int .i64 (xendv s e)) ∧ w = w' := by
  have hc0 : w.cell? ⟨b, 0, none⟩ = some (.string s) := by rw [cell_of h.blk]; rfl
  have hc1 : w.cell? ⟨b, 1, none⟩ = some (.int .i64 e) := by rw [cell_of h.blk]; rfl
  have hf0 : w.frozen? ⟨b, 0, none⟩ = false := free_of h.blk
  have hf1 : w.frozen? ⟨b, 1, none⟩ = false := free_of h.blk
  have hbl : b < w.heap.size := lt_of_block h.blk
  have hsz := h.small
  unfold maxLen at hsz
  clear h
  by_cases he : e = 0
  · subst he
    by_cases hz : 0 < s.size
    · have r : xendv s 0 = 4 := by unfold xendv; rw [if_pos rfl, if_neg (by omega)]
      rw [r]
      clear r
      go_enter Try.func43, Try.ntmps43
      go_wp2
      go_ret
      exact ⟨rfl, rfl⟩
    · have r : xendv s 0 = 0 := by unfold xendv; rw [if_pos rfl, if_pos (by omega)]
      rw [r]
      clear r
      go_enter Try.func43, Try.ntmps43
      go_wp2
      go_ret
      exact ⟨rfl, rfl⟩
  · have he' : (e == 0) = false := by simpa using he
    have r : xendv s e = e := by unfold xendv; rw [if_neg he]
    rw [r]
    clear r he
    go_enter Try.func43, Try.ntmps43
    go_wp2
    go_ret
    exact ⟨rfl, rfl⟩
end Ref
end Go.Proofs.Ytmnmemeldjbifaa
