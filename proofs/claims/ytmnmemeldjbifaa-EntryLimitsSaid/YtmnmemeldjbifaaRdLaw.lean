/-
  The reader answers as the document's own does: plain law.
-/
import Derived.Test.YtmnmemeldjbifaaRef2
set_option linter.unusedVariables false
set_option linter.unusedSimpArgs false
namespace Go.Proofs.Ytmnmemeldjbifaa
open Go.RowKit
namespace OctRd
open Oct Ref

theorem ext_ext (s : ByteArray) (a n : Nat) (h : a + n ≤ s.size) : (s.extract a s.size).extract 0 n = s.extract a (a + n) := by
  rw [ByteArray.extract_extract]
  congr 1 <;> omega
theorem ext_ext2 (s : ByteArray) (a n : Nat) (h : a + n ≤ s.size) : (s.extract a s.size).extract n (s.extract a s.size).size = s.extract (a + n) s.size := by
  rw [ByteArray.extract_extract, ByteArray.size_extract]
  congr 1
  omega
theorem rraw_le (s : ByteArray) (a : Nat) (bad n : Int) (h : a ≤ s.size) : (rraw s a bad n).2.1 ≤ s.size := by
  unfold rraw
  split
  · exact h
  · split
    · exact h
    · split
      · exact h
      · simp only; omega
theorem rnum_le (s : ByteArray) (a : Nat) (bad n : Int) (h : a ≤ s.size) : (rnum s a bad n).2.1 ≤ s.size := by
  unfold rnum
  split
  · exact h
  · split
    · exact h
    · exact rraw_le s a 0 n h
theorem raw_law (s : ByteArray) (a : Nat) (bad n : Int) (h : a ≤ s.size) : xraw (s.extract a s.size) bad n = ((rraw s a bad n).1, s.extract (rraw s a bad n).2.1 s.size, (rraw s a bad n).2.2) := by
  unfold xraw rraw
  have hs : (s.extract a s.size).size = s.size - a := by rw [ByteArray.size_extract]; omega
  by_cases hb : bad = 0
  · by_cases hn : n < 0
    · simp [hb, hn]
    · by_cases hl : (s.size : Int) - a < n
      · have hl2 : ((s.extract a s.size).size : Int) < n := by rw [hs]; omega
        rw [if_neg (by simp [hb]), if_neg hn, if_pos hl2, if_neg (by simp [hb]), if_neg hn, if_pos hl]
      · have hl2 : ¬ ((s.extract a s.size).size : Int) < n := by rw [hs]; omega
        rw [if_neg (by simp [hb]), if_neg hn, if_neg hl2, if_neg (by simp [hb]), if_neg hn, if_neg hl, ext_ext s a n.toNat (by omega), ext_ext2 s a n.toNat (by omega)]
  · simp [hb]
theorem num_law (s : ByteArray) (a : Nat) (bad k : Int) (h : a ≤ s.size) : xnum (s.extract a s.size) bad k = ((rnum s a bad k).1, s.extract (rnum s a bad k).2.1 s.size, (rnum s a bad k).2.2) := by
  unfold xnum rnum
  by_cases hb : bad = 0
  · by_cases hk : nbits k = 0
    · simp only [hb, hk, and_self, if_true, ne_eq, not_true_eq_false, if_false]
      unfold xraw
      simp [natOf]
    · have hm : max 0 (min k 4) = k := by rcases nbits_some hk with rfl | rfl | rfl <;> decide
      simp only [hb, hk, and_false, if_false, ne_eq, not_true_eq_false, hm]
      rw [raw_law s a 0 k h]
  · simp only [hb, false_and, if_false, ne_eq, not_false_eq_true, if_true]
    unfold xraw
    simp [hb, natOf]
theorem text_law (s : ByteArray) (a : Nat) (bad m : Int) (h : a ≤ s.size) : xtext (s.extract a s.size) bad m = ((rtext s a bad m).1, s.extract (rtext s a bad m).2.1 s.size, (rtext s a bad m).2.2) := by
  unfold xtext rtext
  have hl := rnum_le s a bad 2 h
  rw [num_law s a bad 2 h]
  generalize rnum s a bad 2 = z at *
  obtain ⟨n, a2, b2⟩ := z
  simp only at hl ⊢
  by_cases hb : b2 = 0
  · by_cases hn : m < (n : Int)
    · simp [hb, hn]
    · simp only [hb, hn, ne_eq, not_true_eq_false, if_false]
      exact raw_law s a2 0 n hl
  · simp [hb]
theorem be_len : ∀ (m : Nat) (n : Int), (be m n).length = m
  | 0, _ => rfl
  | m + 1, n => by simp [be, be_len m]
theorem natOf_be : ∀ (m : Nat) (n : Int), 0 ≤ n → n < 256 ^ m → (natOf (be m n) : Int) = n
  | 0, n, h0, h => by simp at h; simp [be, natOf]; omega
  | m + 1, n, h0, h => by
    have hd : n / 256 < 256 ^ m := by
      rw [Int.pow_succ] at h
      omega
    have ih := natOf_be m (n / 256) (by omega) hd
    have e : be (m + 1) n = be m (n / 256) ++ [UInt8.ofNat (n % 256).toNat] := rfl
    rw [e, natOf_snoc]
    have hb : ((UInt8.ofNat (n % 256).toNat).toNat : Int) = n % 256 := by rw [UInt8.toNat_ofNat']; omega
    omega
theorem be_natOf : ∀ (m : Nat) (l : List UInt8), l.length = m → be m (natOf l) = l
  | 0, l, h => by simp [List.length_eq_zero_iff.1 h, be]
  | m + 1, l, h => by
    have hne : l ≠ [] := by intro e; simp [e] at h
    obtain ⟨l', c, rfl⟩ : ∃ l' c, l = l' ++ [c] := ⟨l.dropLast, l.getLast hne, (List.dropLast_concat_getLast hne).symm⟩
    have hl : l'.length = m := by simpa using h
    have hc : c.toNat < 256 := c.toNat_lt
    have e : ∀ n : Int, be (m + 1) n = be m (n / 256) ++ [UInt8.ofNat (n % 256).toNat] := fun _ => rfl
    rw [e, natOf_snoc]
    have h1 : ((256 * natOf l' + c.toNat : Nat) : Int) / 256 = (natOf l' : Int) := by omega
    have h2 : (((256 * natOf l' + c.toNat : Nat) : Int) % 256).toNat = c.toNat := by omega
    rw [h1, h2, be_natOf m l' hl]
    simp
end OctRd
end Go.Proofs.Ytmnmemeldjbifaa
