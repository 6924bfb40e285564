/-
  tally's contracts: Load; and petrelref21's.
-/
import Derived.Test.YtkambiodgoiefaaTal3
import Derived.Test.YtkambiodgoiefaaRdLaw
namespace Go.Proofs.Ytkambiodgoiefaa
open Go.RowKit
namespace Tal
open Oct Ref OctRd

theorem or_low (a b : Nat) (ha : a < 4294967296) (hb : b < 4294967296) : bits .or .u64 ((a : Int) * 4294967296) (b : Int) = ((a * 4294967296 + b : Nat) : Int) := by
  have e : (a * 4294967296) ||| b = a * 4294967296 + b := by
    have := Nat.shiftLeft_add_eq_or_of_lt (b := b) (i := 32) hb a
    rw [Nat.shiftLeft_eq] at this
    exact this.symm
  have e1 : (a : Int) * 4294967296 = ((a * 4294967296 : Nat) : Int) := by omega
  rw [e1]
  show IntKind.u64.wrap ((BitVec.ofInt 64 ((a * 4294967296 : Nat) : Int) ||| BitVec.ofInt 64 ((b : Nat) : Int)).toNat : Int) = _
  rw [BitVec.toNat_or, ofInt_u64 (a * 4294967296) (by omega), ofInt_u64 b (by omega), e]
  show (((a * 4294967296 + b : Nat) : Int) % 18446744073709551616) = _
  omega
/-- What stands at 'a' in four bytes. -/
def four (s : ByteArray) (a : Nat) : Nat := natOf (s.extract a (a + 4)).data.toList
theorem four_lt (s : ByteArray) (a : Nat) : four s a < 4294967296 := by
  refine Nat.lt_of_lt_of_le (natOf_lt _) (Nat.le_trans (Nat.pow_le_pow_right (by omega) (show (s.extract a (a + 4)).data.toList.length ≤ 4 by rw [Array.length_toList]; show (s.extract a (a + 4)).size ≤ 4; rw [ByteArray.size_extract]; omega)) (by decide))
theorem four_be (s : ByteArray) (a : Nat) (h : a + 4 ≤ s.size) : be 4 (four s a) = (s.extract a (a + 4)).data.toList := by
  apply be_natOf
  rw [Array.length_toList]
  show (s.extract a (a + 4)).size = 4
  rw [ByteArray.size_extract]; omega
theorem rnum4_ok (s : ByteArray) (a : Nat) (h : a + 4 ≤ s.size) : rnum s a 0 4 = (four s a, a + 4, 0) := by
  unfold rnum rraw
  rw [if_neg (by simp), if_neg (by decide), if_neg (by simp), if_neg (by omega), if_neg (by omega)]
  rfl
theorem rnum4_short (s : ByteArray) (a : Nat) (h : s.size < a + 4) : rnum s a 0 4 = (0, a, 2) := by
  unfold rnum rraw
  rw [if_neg (by simp), if_neg (by decide), if_neg (by simp), if_neg (by omega), if_pos (by omega)]
  rfl
theorem rnum_stuck (s : ByteArray) (a : Nat) (k : Int) : rnum s a 2 k = (0, a, 2) := by
  unfold rnum
  rw [if_pos (by decide)]
/-- What a load answers that finds no eight bytes. -/
def ev (s : ByteArray) : Int := if s.size < 8 then 2 else 4
/-- The two numbers that are read, where the reader stands, its error. -/
theorem reads (s : ByteArray) : ∃ n1 a1 b1 n2 a2 b2, rnum s 0 0 4 = (n1, a1, b1) ∧ rnum s a1 b1 4 = (n2, a2, b2) ∧ a1 ≤ s.size ∧ a2 ≤ s.size ∧
    ((s.size = 8 ∧ n1 = four s 0 ∧ n2 = four s 4 ∧ a2 = s.size ∧ b2 = 0) ∨ (s.size ≠ 8 ∧ (if b2 = 0 then (if a2 = s.size then (0 : Int) else 4) else b2) = ev s)) := by
  by_cases h1 : s.size < 4
  · exact ⟨0, 0, 2, 0, 0, 2, rnum4_short s 0 (by omega), rnum_stuck s 0 4, by omega, by omega, .inr ⟨by omega, by unfold ev; rw [if_neg (by decide), if_pos (by omega)]⟩⟩
  · by_cases h2 : s.size < 8
    · exact ⟨_, 4, 0, 0, 4, 2, rnum4_ok s 0 (by omega), rnum4_short s 4 (by omega), by omega, by omega, .inr ⟨by omega, by unfold ev; rw [if_neg (by decide), if_pos (by omega)]⟩⟩
    · refine ⟨_, 4, 0, _, 8, 0, rnum4_ok s 0 (by omega), rnum4_ok s 4 (by omega), by omega, by omega, ?_⟩
      by_cases h3 : s.size = 8
      · exact .inl ⟨h3, rfl, rfl, h3.symm, rfl⟩
      · exact .inr ⟨h3, by unfold ev; rw [if_pos rfl, if_neg (by omega), if_neg (by omega)]⟩
theorem end_v (w : World) (b : Nat) (s : ByteArray) (at_ : Nat) (bad v : Int) (h : IsR w b s at_ bad) (hv : (if bad = 0 then (if at_ = s.size then (0 : Int) else 4) else bad) = v) : Calls Try.prog 25 #[.pointer (some ⟨b, 0, none⟩)] w fun e w' =>
    e = .returned (.int .i64 v) ∧ Keep (fun _ => False) w w' := hv ▸ end_any w b s at_ bad h
theorem rnum_v (w : World) (b : Nat) (s : ByteArray) (at_ : Nat) (bad k : Int) (n a' : Nat) (b' : Int) (h : IsR w b s at_ bad) (hv : rnum s at_ bad k = (n, a', b')) :
    Calls Try.prog 24 #[.pointer (some ⟨b, 0, none⟩), .int .i64 k] w fun e w' =>
    e = .returned (.int .i64 n) ∧ IsR w' b s a' b' ∧ Keep (fun k => k = b) w w' := by
  have := rnum_any w b s at_ bad k h
  rw [hv] at this
  exact this
theorem load_bad (w : World) (s : ByteArray) (hs : s.size ≤ maxLen) (h8 : s.size ≠ 8) :
    Calls Try.prog 13 #[.string s] w fun e w' => e = .returned (.tuple #[.pointer none, .int .i64 (ev s)]) ∧ Keep (fun _ => False) w w' := by
  obtain ⟨n1, a1, b1, n2, a2, b2, h1, h2, ha1, ha2, hh⟩ := reads s
  have hv : (if b2 = 0 then (if a2 = s.size then (0 : Int) else 4) else b2) = ev s := by
    rcases hh with h | h
    · exact absurd h.1 h8
    · exact h.2
  obtain ⟨v, hvv⟩ : ∃ v, ev s = v := ⟨_, rfl⟩
  rw [hvv] at hv ⊢
  have hv0 : (v == 0) = false := by unfold ev at hvv; split at hvv <;> subst hvv <;> rfl
  have H1 : Hid _ := h1
  have H2 : Hid _ := h2
  have Hv : Hid _ := hv
  clear h1 h2 hv hh hvv
  go_enter Try.func13, Try.ntmps13
  go_wp2_with (first | (go_at_call 23; refine (open_any _ s hs).mono ?_; rintro e w1 ⟨rfl, g1, k1⟩; have G1 : Hid _ := g1; have K1 : Hid _ := k1; clear g1 k1) | (go_at_call 24; first | (refine (rnum_v _ _ s a1 b1 _ _ _ _ G2.out H2.out).mono ?_; rintro e w3 ⟨rfl, g1, k1⟩; have G3 : Hid _ := g1; have K3 : Hid _ := k1; clear g1 k1) | (refine (rnum_v _ _ s 0 0 _ _ _ _ G1.out H1.out).mono ?_; rintro e w2 ⟨rfl, g1, k1⟩; have G2 : Hid _ := g1; have K2 : Hid _ := k1; clear g1 k1)) | (go_at_call 25; refine (end_v _ _ s _ _ _ G3.out Hv.out).mono ?_; rintro e w4 ⟨rfl, k1⟩; have K4 : Hid _ := k1; clear k1))
  go_ret2
  exact ⟨rfl, ((K1.out.trans' (K2.out.trans K3.out) (T := fun _ => False) (fun _ _ h => h) (fun y hy e => by omega)).trans K4.out)⟩
theorem load_ok (w : World) (s : ByteArray) (hs : s.size ≤ maxLen) (h8 : s.size = 8) :
    Calls Try.prog 13 #[.string s] w fun e w' => ∃ b, w.heap.size ≤ b ∧ e = .returned (.tuple #[.pointer (some ⟨b, 0, none⟩), .int .i64 0]) ∧ IsT w' b (wrap64 ((four s 0 * 4294967296 + four s 4 : Nat) : Int)) ∧ Keep (fun _ => False) w w' := by
  obtain ⟨n1, a1, b1, n2, a2, b2, h1, h2, ha1, ha2, hh⟩ := reads s
  obtain ⟨_, e1, e2, e3, e4⟩ : s.size = 8 ∧ n1 = four s 0 ∧ n2 = four s 4 ∧ a2 = s.size ∧ b2 = 0 := by
    rcases hh with h | h
    · exact h
    · exact absurd h8 h.1
  have l1 : n1 < 4294967296 := e1 ▸ four_lt s 0
  have l2 : n2 < 4294967296 := e2 ▸ four_lt s 4
  rw [← e1, ← e2]
  have hv : (if b2 = 0 then (if a2 = s.size then (0 : Int) else 4) else b2) = 0 := by rw [if_pos e4, if_pos e3]
  have H1 : Hid _ := h1
  have H2 : Hid _ := h2
  have Hv : Hid _ := hv
  clear h1 h2 hv hh e1 e2 e3 e4
  go_enter Try.func13, Try.ntmps13
  go_wp2_with (first | (go_at_call 23; refine (open_any _ s hs).mono ?_; rintro e w1 ⟨rfl, g1, k1⟩; have G1 : Hid _ := g1; have K1 : Hid _ := k1; clear g1 k1) | (go_at_call 24; first | (refine (rnum_v _ _ s a1 b1 _ _ _ _ G2.out H2.out).mono ?_; rintro e w3 ⟨rfl, g1, k1⟩; have G3 : Hid _ := g1; have K3 : Hid _ := k1; clear g1 k1) | (refine (rnum_v _ _ s 0 0 _ _ _ _ G1.out H1.out).mono ?_; rintro e w2 ⟨rfl, g1, k1⟩; have G2 : Hid _ := g1; have K2 : Hid _ := k1; clear g1 k1)) | (go_at_call 25; refine (end_v _ _ s _ _ _ G3.out Hv.out).mono ?_; rintro e w4 ⟨rfl, k1⟩; have K4 : Hid _ := k1; clear k1) | (go_at_call 7; refine (new_t _).mono ?_; rintro e w5 ⟨rfl, g1, k1⟩; have G5 : Hid _ := g1; have K5 : Hid _ := k1; clear g1 k1))
  rw [or_low n1 n2 l1 l2]
  refine (store_t _ _ 0 _ G5.out).mono ?_
  rintro e w6 ⟨rfl, rfl⟩
  go_wp2
  go_ret2
  have k4 : Keep (fun _ => False) w w4 := (K1.out.trans' (K2.out.trans K3.out) (T := fun _ => False) (fun _ _ h => h) (fun y hy e => by omega)).trans K4.out
  have hz := k4.size
  exact ⟨w4.heap.size, hz, rfl, ⟨by rw [block_set G5.out.blk]; rfl, by unfold wrap64; omega, by unfold wrap64; omega⟩, (k4.trans K5.out).setCell _ _ (fun h => by simp at h; omega)⟩
theorem rmay (w : World) (n : Int) : Calls Try.prog 9 #[.int .i64 n] w fun e w' => e = .returned (.bool (may n)) ∧ w' = w := by
  unfold may
  by_cases h1 : n < 2147483648
  · by_cases h2 : -2147483648 ≤ n
    · rw [decide_eq_true ⟨h1, h2⟩]
      go_enter Try.func9, Try.ntmps9
      go_wp2
      go_ret
      exact ⟨rfl, rfl⟩
    · rw [decide_eq_false (fun h => h2 h.2)]
      go_enter Try.func9, Try.ntmps9
      go_wp2
      go_ret
      exact ⟨rfl, rfl⟩
  · rw [decide_eq_false (fun h => h1 h.1)]
    go_enter Try.func9, Try.ntmps9
    go_wp2
    go_ret
    exact ⟨rfl, rfl⟩
theorem rput (w : World) (n : Int) (X : Nat) (hX : IntKind.u64.wrap n = (X : Int)) (hx1 : X < 18446744073709551616) :
    Calls Try.prog 12 #[.int .i64 n] w fun e w' => e = .returned (.string ⟨(be 4 ((X : Int) / 4294967296) ++ be 4 ((X % 4294967296 : Nat) : Int)).toArray⟩) ∧ Keep (fun _ => False) w w' := by
  have hw : wrap64 ((X % 4294967296 : Nat) : Int) = ((X % 4294967296 : Nat) : Int) := by unfold wrap64; omega
  go_enter Try.func12, Try.ntmps12
  go_wp2_with (first | (go_at_call 22; refine (num4 _ _ (by omega) (by omega)).mono ?_; first | (rintro e w2 ⟨rfl, k2⟩; have K2 : Hid _ := k2; have := K1.out; clear k2 this) | (rintro e w1 ⟨rfl, k1⟩; have K1 : Hid _ := k1; clear k1)))
  go_ret
  exact ⟨rfl, K1.out.trans K2.out⟩
end Tal
end Go.Proofs.Ytkambiodgoiefaa
