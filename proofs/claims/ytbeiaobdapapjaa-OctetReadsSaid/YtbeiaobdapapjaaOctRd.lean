/-
  The reader answers as the document's own does: plain law.
-/
import Derived.Test.YtbeiaobdapapjaaOctAct
import Derived.Test.YtbeiaobdapapjaaOpn2
namespace Go.Proofs.Ytbeiaobdapapjaa
open Go.RowKit
namespace OctRd
open Oct Ref

theorem ext_ext (s : ByteArray) (a n : Nat) (h : a + n ≤ s.size) : (s.extract a s.size).extract 0 n = s.extract a (a + n) := by
  rw [ByteArray.extract_extract]
  congr 1 <;> omega
theorem ext_ext2 (s : ByteArray) (a n : Nat) (h : a + n ≤ s.size) : (s.extract a s.size).extract n (s.extract a s.size).size = s.extract (a + n) s.size := by
  rw [ByteArray.extract_extract, ByteArray.size_extract]
  congr 1
  omega
theorem rraw_le (s : ByteArray) (a : Nat) (bad n : Int) (h : a ≤ s.size) : (rraw s a bad n).2.1 ≤ s.size := by
  unfold rraw
  split
  · exact h
  · split
    · exact h
    · split
      · exact h
      · simp only; omega
theorem rnum_le (s : ByteArray) (a : Nat) (bad n : Int) (h : a ≤ s.size) : (rnum s a bad n).2.1 ≤ s.size := by
  unfold rnum
  split
  · exact h
  · split
    · exact h
    · exact rraw_le s a 0 n h
theorem raw_law (s : ByteArray) (a : Nat) (bad n : Int) (h : a ≤ s.size) : xraw (s.extract a s.size) bad n = ((rraw s a bad n).1, s.extract (rraw s a bad n).2.1 s.size, (rraw s a bad n).2.2) := by
  unfold xraw rraw
  have hs : (s.extract a s.size).size = s.size - a := by rw [ByteArray.size_extract]; omega
  by_cases hb : bad = 0
  · by_cases hn : n < 0
    · simp [hb, hn]
    · by_cases hl : (s.size : Int) - a < n
      · have hl2 : ((s.extract a s.size).size : Int) < n := by rw [hs]; omega
        rw [if_neg (by simp [hb]), if_neg hn, if_pos hl2, if_neg (by simp [hb]), if_neg hn, if_pos hl]
      · have hl2 : ¬ ((s.extract a s.size).size : Int) < n := by rw [hs]; omega
        rw [if_neg (by simp [hb]), if_neg hn, if_neg hl2, if_neg (by simp [hb]), if_neg hn, if_neg hl, ext_ext s a n.toNat (by omega), ext_ext2 s a n.toNat (by omega)]
  · simp [hb]
theorem num_law (s : ByteArray) (a : Nat) (bad k : Int) (h : a ≤ s.size) : xnum (s.extract a s.size) bad k = ((rnum s a bad k).1, s.extract (rnum s a bad k).2.1 s.size, (rnum s a bad k).2.2) := by
  unfold xnum rnum
  by_cases hb : bad = 0
  · by_cases hk : nbits k = 0
    · simp only [hb, hk, and_self, if_true, ne_eq, not_true_eq_false, if_false]
      unfold xraw
      simp [natOf]
    · have hm : max 0 (min k 4) = k := by rcases nbits_some hk with rfl | rfl | rfl <;> decide
      simp only [hb, hk, and_false, if_false, ne_eq, not_true_eq_false, hm]
      rw [raw_law s a 0 k h]
  · simp only [hb, false_and, if_false, ne_eq, not_false_eq_true, if_true]
    unfold xraw
    simp [hb, natOf]
theorem text_law (s : ByteArray) (a : Nat) (bad m : Int) (h : a ≤ s.size) : xtext (s.extract a s.size) bad m = ((rtext s a bad m).1, s.extract (rtext s a bad m).2.1 s.size, (rtext s a bad m).2.2) := by
  unfold xtext rtext
  have hl := rnum_le s a bad 2 h
  rw [num_law s a bad 2 h]
  generalize rnum s a bad 2 = z at *
  obtain ⟨n, a2, b2⟩ := z
  simp only at hl ⊢
  by_cases hb : b2 = 0
  · by_cases hn : m < (n : Int)
    · simp [hb, hn]
    · simp only [hb, hn, ne_eq, not_true_eq_false, if_false]
      exact raw_law s a2 0 n hl
  · simp [hb]
end OctRd
end Go.Proofs.Ytbeiaobdapapjaa
