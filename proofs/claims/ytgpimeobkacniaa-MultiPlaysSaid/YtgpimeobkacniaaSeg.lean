/-
  What a reader reads stands in the text, part by part: plain law.
-/
import Derived.Test.YtgpimeobkacniaaGId
set_option linter.unusedVariables false
set_option linter.unusedSimpArgs false
namespace Go.Proofs.Ytgpimeobkacniaa
open Go.RowKit
namespace Seg
open Oct Ids OctRd
open Ref (endv)

/-- The text from place a on. -/
def dr (s : ByteArray) (a : Nat) : List UInt8 := s.data.toList.drop a
theorem len_s (s : ByteArray) : s.data.toList.length = s.size := by rw [Array.length_toList]; rfl
theorem dr_len (s : ByteArray) (a : Nat) : (dr s a).length = s.size - a := by unfold dr; rw [List.length_drop, len_s]
theorem dr_end (s : ByteArray) : dr s s.size = [] := by unfold dr; exact List.drop_eq_nil_of_le (by rw [len_s]; exact Nat.le_refl _)
theorem ext_list (s : ByteArray) (a n : Nat) : (s.extract a (a + n)).data.toList = (dr s a).take n := by
  unfold dr
  rw [ByteArray.data_extract, Array.toList_extract, List.extract_eq_take_drop]
  congr 1
  omega
theorem raw_stuck {s : ByteArray} {a : Nat} {b k : Int} {x : ByteArray} {a' : Nat} {b' : Int} (h : rraw s a b k = (x, a', b')) (hb : b ≠ 0) : x = ByteArray.empty ∧ a' = a ∧ b' = b := by
  unfold rraw at h
  rw [if_pos hb] at h
  simp only [Prod.mk.injEq] at h
  exact ⟨h.1.symm, h.2.1.symm, h.2.2.symm⟩
theorem raw_ok {s : ByteArray} {a : Nat} {k : Nat} {x : ByteArray} {a' : Nat} (h : rraw s a 0 k = (x, a', 0)) (hle : a ≤ s.size) : dr s a = x.data.toList ++ dr s a' ∧ a' ≤ s.size ∧ x.size = k := by
  unfold rraw at h
  rw [if_neg (by simp), if_neg (by omega)] at h
  split at h
  · simp only [Prod.mk.injEq] at h; omega
  · rename_i hk
    simp only [Prod.mk.injEq, Int.toNat_natCast] at h
    obtain ⟨rfl, rfl, _⟩ := h
    refine ⟨?_, by omega, by rw [ByteArray.size_extract]; omega⟩
    rw [ext_list]
    unfold dr
    rw [← List.drop_drop, List.take_append_drop]
theorem num_stuck {s : ByteArray} {a : Nat} {b k : Int} {n a' : Nat} {b' : Int} (h : rnum s a b k = (n, a', b')) (hb : b ≠ 0) : n = 0 ∧ a' = a ∧ b' = b := by
  unfold rnum at h
  rw [if_pos hb] at h
  simp only [Prod.mk.injEq] at h
  exact ⟨h.1.symm, h.2.1.symm, h.2.2.symm⟩
theorem num_ok {s : ByteArray} {a : Nat} {k m : Nat} {n a' : Nat} (hk : nbits k ≠ 0) (hm : (nbits k / 8).toNat = m) (h : rnum s a 0 k = (n, a', 0)) (hle : a ≤ s.size) : dr s a = be m n ++ dr s a' ∧ a' ≤ s.size := by
  unfold rnum at h
  rw [if_neg (by simp), if_neg hk] at h
  obtain ⟨x, c, d⟩ : ∃ y, y = rraw s a 0 k := ⟨_, rfl⟩
  simp only [Prod.mk.injEq] at h
  obtain ⟨h1, h2, h3⟩ := h
  have hr : rraw s a 0 k = ((rraw s a 0 k).1, a', 0) := Prod.ext rfl (Prod.ext h2 h3)
  obtain ⟨e1, e2, e3⟩ := raw_ok hr hle
  have hkm : k = m := by
    rcases Ref.nbits_some hk with e | e | e <;> (rw [e] at hm; simp [nbits] at hm; omega)
  refine ⟨?_, e2⟩
  rw [e1, ← h1, be_natOf m _ (by rw [len_s, e3, hkm])]
theorem num_err {s : ByteArray} {a : Nat} {k : Int} {n a' : Nat} {b' : Int} (h : rnum s a 0 k = (n, a', b')) (hb : b' ≠ 0) : n = 0 := by
  unfold rnum at h
  rw [if_neg (by simp)] at h
  split at h
  · simp only [Prod.mk.injEq] at h; exact h.1.symm
  · simp only [Prod.mk.injEq] at h
    obtain ⟨h1, _, h3⟩ := h
    rw [← h1]
    have : (rraw s a 0 k).1 = ByteArray.empty := by
      unfold rraw at h3 ⊢
      rw [if_neg (by simp)] at h3 ⊢
      split
      · rfl
      · rename_i hk
        rw [if_neg hk] at h3
        split
        · rfl
        · rename_i hk2
          rw [if_neg hk2] at h3
          exact absurd h3.symm hb
    rw [this]
    rfl
theorem ids_stuck (s : ByteArray) (a : Nat) (b : Int) (hb : b ≠ 0) : ∀ k, (rdIds s a b k).2.2 = b
  | 0 => rfl
  | k + 1 => by
    have ih := ids_stuck s a b hb k
    show (rraw s (rdIds s a b k).2.1 (rdIds s a b k).2.2 32).2.2 = b
    rw [ih]
    unfold rraw
    rw [if_pos hb]
theorem ids_ok (s : ByteArray) (a : Nat) (hle : a ≤ s.size) : ∀ k, (rdIds s a 0 k).2.2 = 0 → dr s a = (rdIds s a 0 k).1.flatten ++ dr s (rdIds s a 0 k).2.1 ∧ (rdIds s a 0 k).2.1 ≤ s.size
  | 0, _ => ⟨rfl, hle⟩
  | k + 1, h => by
    have h' : (rraw s (rdIds s a 0 k).2.1 (rdIds s a 0 k).2.2 32).2.2 = 0 := h
    have h0 : (rdIds s a 0 k).2.2 = 0 := by
      by_cases e : (rdIds s a 0 k).2.2 = 0
      · exact e
      · unfold rraw at h'
        rw [if_pos e] at h'
        exact h'
    obtain ⟨e1, e2⟩ := ids_ok s a hle k h0
    rw [h0] at h'
    have hr : rraw s (rdIds s a 0 k).2.1 0 (32 : Nat) = ((rraw s (rdIds s a 0 k).2.1 0 32).1, (rraw s (rdIds s a 0 k).2.1 0 32).2.1, 0) := Prod.ext rfl (Prod.ext rfl h')
    obtain ⟨e3, e4, e5⟩ := raw_ok hr e2
    have hx : pad (rraw s (rdIds s a 0 k).2.1 0 32).1.data.toList = (rraw s (rdIds s a 0 k).2.1 0 32).1.data.toList := pad_full _ (by rw [len_s]; exact e5)
    show dr s a = ((rdIds s a 0 k).1 ++ [pad (rraw s (rdIds s a 0 k).2.1 (rdIds s a 0 k).2.2 32).1.data.toList]).flatten ++ dr s (rraw s (rdIds s a 0 k).2.1 (rdIds s a 0 k).2.2 32).2.1 ∧ (rraw s (rdIds s a 0 k).2.1 (rdIds s a 0 k).2.2 32).2.1 ≤ s.size
    rw [h0, hx]
    refine ⟨?_, e4⟩
    rw [e1, e3]
    simp
theorem ids_each (s : ByteArray) (a : Nat) (b : Int) : ∀ k, ∀ x ∈ (rdIds s a b k).1, x.length = 32
  | 0, x, h => by cases h
  | k + 1, x, h => by
    have h' : x ∈ (rdIds s a b k).1 ++ [pad (rraw s (rdIds s a b k).2.1 (rdIds s a b k).2.2 32).1.data.toList] := h
    rcases List.mem_append.1 h' with h' | h'
    · exact ids_each s a b k x h'
    · rw [List.mem_singleton.1 h']
      exact pad_len _ (by rw [len_s]; exact rraw_32 _ _ _)
theorem end_ok {s : ByteArray} {a : Nat} {b : Int} (h : endv s a b = 0) : a = s.size ∧ b = 0 := by
  unfold endv at h
  split at h
  · rename_i hb
    split at h
    · rename_i ha; exact ⟨ha, hb⟩
    · omega
  · rename_i hb; exact absurd h hb
theorem text_ok {s : ByteArray} {a : Nat} {m : Int} {x : ByteArray} {a' : Nat} (h : rtext s a 0 m = (x, a', 0)) (hle : a ≤ s.size) : dr s a = (be 2 x.size ++ x.data.toList) ++ dr s a' ∧ a' ≤ s.size := by
  unfold rtext at h
  obtain ⟨q, hq⟩ : ∃ q, rnum s a 0 2 = q := ⟨_, rfl⟩
  obtain ⟨n, c, d⟩ := q
  rw [hq] at h
  simp only at h
  split at h
  · rename_i hd
    simp only [Prod.mk.injEq] at h
    exact absurd h.2.2 hd
  · rename_i hd
    have hd' : d = 0 := by simpa using hd
    subst hd'
    split at h
    · simp only [Prod.mk.injEq] at h; omega
    · obtain ⟨e1, e2⟩ := num_ok (k := 2) (m := 2) (by decide) (by decide) hq hle
      obtain ⟨e3, e4, e5⟩ := raw_ok h e2
      refine ⟨?_, e4⟩
      rw [e1, e3, e5, List.append_assoc]
/-! Parts that were written are read. -/
theorem raw_seg {T : ByteArray} {a : Nat} {x r : List UInt8} (h : dr T a = x ++ r) (k : Int) (hk : k = x.length) (hle : a ≤ T.size) : rraw T a 0 k = (⟨x.toArray⟩, a + x.length, 0) ∧ dr T (a + x.length) = r ∧ a + x.length ≤ T.size := by
  have hl := dr_len T a
  rw [h, List.length_append] at hl
  subst hk
  refine ⟨?_, ?_, by omega⟩
  · unfold rraw
    rw [if_neg (by simp), if_neg (by omega), if_neg (by omega)]
    have : T.extract a (a + (x.length : Int).toNat) = ⟨x.toArray⟩ := by
      apply ByteArray.ext
      apply Array.toList_inj.1
      rw [Int.toNat_natCast, ext_list, h, List.take_left]
    rw [this, Int.toNat_natCast]
  · unfold dr at h ⊢
    rw [← List.drop_drop, h, List.drop_left]
theorem num_seg {T : ByteArray} {a m : Nat} {n k : Int} {r : List UInt8} (h : dr T a = be m n ++ r) (hk : nbits k ≠ 0) (hm : (nbits k / 8).toNat = m) (h0 : 0 ≤ n) (hn : n < 256 ^ m) (hle : a ≤ T.size) : rnum T a 0 k = (n.toNat, a + m, 0) ∧ dr T (a + m) = r ∧ a + m ≤ T.size := by
  have hkm : k = m := by
    rcases Ref.nbits_some hk with e | e | e <;> (rw [e] at hm; simp [nbits] at hm; omega)
  obtain ⟨h1, h2, h3⟩ := raw_seg h k (by rw [be_len, hkm]) hle
  rw [be_len] at h1 h2 h3
  refine ⟨?_, h2, h3⟩
  unfold rnum
  rw [if_neg (by simp), if_neg hk, h1]
  have := natOf_be m n h0 hn
  simp only
  congr 1
  omega
theorem ids_seg {T : ByteArray} {a : Nat} (hle : a ≤ T.size) : ∀ (l : List (List UInt8)) (r : List UInt8), (∀ x ∈ l, x.length = 32) → dr T a = l.flatten ++ r → ∀ k, k ≤ l.length → rdIds T a 0 k = (l.take k, a + 32 * k, 0) ∧ dr T (a + 32 * k) = (l.drop k).flatten ++ r ∧ a + 32 * k ≤ T.size
  | l, r, hs, h, 0, _ => ⟨rfl, by simpa using h, hle⟩
  | l, r, hs, h, k + 1, hk => by
    obtain ⟨h1, h2, h3⟩ := ids_seg hle l r hs h k (by omega)
    obtain ⟨x, hx⟩ : ∃ x, l[k]? = some x := ⟨_, List.getElem?_eq_getElem (by omega)⟩
    have hd : l.drop k = x :: l.drop (k + 1) := by
      have hlt : k < l.length := by omega
      rw [List.drop_eq_getElem_cons hlt]
      rw [List.getElem?_eq_getElem hlt] at hx
      rw [Option.some.inj hx]
    have hx32 := hs x (List.mem_of_getElem? hx)
    rw [hd, List.flatten_cons, List.append_assoc] at h2
    obtain ⟨g1, g2, g3⟩ := raw_seg h2 32 (by rw [hx32]; rfl) h3
    rw [hx32] at g1 g2 g3
    refine ⟨?_, ?_, by omega⟩
    · rw [rdIds_step h1 g1, pad_full _ hx32, List.take_add_one, hx]
      rfl
    · rw [show a + 32 * (k + 1) = a + 32 * k + 32 from by omega]
      exact g2
theorem text_seg {T : ByteArray} {a : Nat} {B : ByteArray} {r : List UInt8} (h : dr T a = (be 2 B.size ++ B.data.toList) ++ r) (hB : B.size ≤ 65535) (hle : a ≤ T.size) : rtext T a 0 65535 = (B, a + 2 + B.size, 0) ∧ dr T (a + 2 + B.size) = r ∧ a + 2 + B.size ≤ T.size := by
  rw [List.append_assoc] at h
  obtain ⟨h1, h2, h3⟩ := num_seg (k := 2) h (by decide) (by decide) (by omega) (by omega) hle
  obtain ⟨g1, g2, g3⟩ := raw_seg h2 (B.size : Int) (by rw [len_s]) h3
  rw [len_s] at g1 g2 g3
  refine ⟨?_, g2, g3⟩
  unfold rtext
  rw [h1]
  simp only [ne_eq, not_true_eq_false, if_false, Int.toNat_natCast]
  rw [if_neg (by omega), g1]
end Seg
end Go.Proofs.Ytgpimeobkacniaa
