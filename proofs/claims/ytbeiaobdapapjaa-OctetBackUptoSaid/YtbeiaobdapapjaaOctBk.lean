/-
  There and back: plain law.
-/
import Derived.Test.YtbeiaobdapapjaaOctAct
import Derived.Test.YtbeiaobdapapjaaOpn2
namespace Go.Proofs.Ytbeiaobdapapjaa
open Go.RowKit
namespace OctBk
open Oct Act1

def wb (s : List UInt8 × Int) (x : OAct) : List UInt8 × Int := if x.1 = 0 then wnum s x.2.1 x.2.2.1 else wtext s x.2.2.2.1
def st (l : List OAct) (k : Nat) : List UInt8 × Int := (l.take k).foldl wb ([], 0)
theorem st_succ (l : List OAct) (k : Nat) (x : OAct) (h : l[k]? = some x) : st l (k + 1) = wb (st l k) x := by
  unfold st
  rw [List.take_add_one, h]
  simp [List.foldl_append]
theorem be_len : ∀ (m : Nat) (n : Int), (be m n).length = m
  | 0, _ => rfl
  | m + 1, n => by simp [be, be_len m]
theorem nbits_le (k : Int) : nbits k ≤ 32 := by unfold nbits; split <;> (try split) <;> (try split) <;> omega
/-- What a call writes. -/
def enc (x : OAct) : List UInt8 := if x.1 = 0 then be (nbits x.2.2.1 / 8).toNat x.2.1 else be 2 x.2.2.2.1.size ++ x.2.2.2.1.data.toList
def good (x : OAct) : Prop := if x.1 = 0 then nbits x.2.2.1 ≠ 0 ∧ 0 ≤ x.2.1 ∧ x.2.1 < 256 ^ (nbits x.2.2.1 / 8).toNat else x.2.2.2.1.size ≤ 65535
theorem wb_bad (bs : List UInt8) (bad : Int) (x : OAct) (h : bad ≠ 0) : wb (bs, bad) x = (bs, bad) := by
  unfold wb wnum wtext
  split <;> simp [h]
theorem wb_good (bs bs' : List UInt8) (x : OAct) (h : wb (bs, 0) x = (bs', 0)) : good x ∧ bs' = bs ++ enc x := by
  unfold wb at h
  unfold good enc
  by_cases h0 : x.1 = 0
  · simp only [h0, if_true] at h ⊢
    unfold wnum at h
    by_cases hk : nbits x.2.2.1 = 0
    · simp [hk] at h
    · by_cases hr : x.2.1 < 0 ∨ 256 ^ (nbits x.2.2.1 / 8).toNat ≤ x.2.1
      · simp [hk, hr] at h
      · simp only [ne_eq, not_true_eq_false, if_false, hk, hr, Prod.mk.injEq, and_true] at h
        exact ⟨⟨hk, by omega, by omega⟩, h.symm⟩
  · simp only [h0, if_false] at h ⊢
    unfold wtext at h
    by_cases hl : 65535 < x.2.2.2.1.size
    · simp [hl] at h
    · simp only [ne_eq, not_true_eq_false, if_false, hl, Prod.mk.injEq, and_true] at h
      exact ⟨by omega, by rw [← h, List.append_assoc]⟩
theorem wb_len (s : List UInt8 × Int) (x : OAct) : (wb s x).1.length ≤ s.1.length + 65540 := by
  obtain ⟨bs, bad⟩ := s
  unfold wb
  have h32 := nbits_le x.2.2.1
  split
  · unfold wnum
    split
    · simp
    · split
      · simp
      · split
        · simp
        · simp only [List.length_append, be_len]
          omega
  · unfold wtext
    split
    · simp
    · split
      · simp
      · simp only [List.length_append, be_len, Array.length_toList]
        rename_i h1 h2
        change bs.length + 2 + x.2.2.2.1.size ≤ _
        omega
/-- The state behind k calls is the prefix of the one behind more, as long as there is no error. -/
theorem st_pre (l : List OAct) (k : Nat) : ∀ (m : Nat), (st l (k + m)).2 = 0 → (st l k).2 = 0 ∧ ∃ r, (st l (k + m)).1 = (st l k).1 ++ r
  | 0, h => ⟨h, [], by simp⟩
  | m + 1, h => by
    cases hx : l[k + m]? with
    | none =>
      have e : st l (k + (m + 1)) = st l (k + m) := by
        unfold st
        rw [List.take_of_length_le (by have := List.getElem?_eq_none_iff.1 hx; omega), List.take_of_length_le (by have := List.getElem?_eq_none_iff.1 hx; omega)]
      rw [e] at h ⊢
      exact st_pre l k m h
    | some x =>
      have e : st l (k + (m + 1)) = wb (st l (k + m)) x := st_succ l (k + m) x hx
      rw [e] at h ⊢
      generalize hs : st l (k + m) = z at *
      obtain ⟨b, bad⟩ := z
      by_cases hb : bad = 0
      · subst hb
        obtain ⟨h1, r, h2⟩ := st_pre l k m (by rw [hs])
        refine ⟨h1, ?_⟩
        obtain ⟨b', bad', hz⟩ : ∃ b' bad', wb (b, 0) x = (b', bad') := ⟨_, _, rfl⟩
        rw [hz] at h ⊢
        obtain rfl : bad' = 0 := h
        rw [hs] at h2
        rw [(wb_good b b' x hz).2]
        exact ⟨r ++ enc x, by simp only at h2 ⊢; rw [h2, List.append_assoc]⟩
      · rw [wb_bad b bad x hb] at h
        exact absurd h hb

theorem natOf_be : ∀ (m : Nat) (n : Int), 0 ≤ n → n < 256 ^ m → (natOf (be m n) : Int) = n
  | 0, n, h0, h => by simp at h; simp [be, natOf]; omega
  | m + 1, n, h0, h => by
    have hd : n / 256 < 256 ^ m := by
      rw [Int.pow_succ] at h
      omega
    have ih := natOf_be m (n / 256) (by omega) hd
    have e : be (m + 1) n = be m (n / 256) ++ [UInt8.ofNat (n % 256).toNat] := rfl
    rw [e, natOf_snoc]
    have hb : ((UInt8.ofNat (n % 256).toNat).toNat : Int) = n % 256 := by rw [UInt8.toNat_ofNat']; omega
    omega

theorem rraw_seg (T : ByteArray) (b seg r : List UInt8) (h : T.data.toList = b ++ (seg ++ r)) (n : Int) (hn : n = seg.length) : rraw T b.length 0 n = (⟨seg.toArray⟩, b.length + seg.length, 0) := by
  have hl : T.size = b.length + (seg.length + r.length) := by
    have := congrArg List.length h
    simpa using this
  subst hn
  unfold rraw
  rw [if_neg (by simp), if_neg (by omega), if_neg (by omega)]
  have : T.extract b.length (b.length + (seg.length : Int).toNat) = ⟨seg.toArray⟩ := by
    apply ByteArray.ext
    rw [ByteArray.data_extract]
    apply Array.toList_inj.1
    rw [Array.toList_extract, h]
    simp [List.extract_eq_take_drop]
  rw [this]
  simp
theorem rnum_seg (T : ByteArray) (b r : List UInt8) (n k : Int) (hk : nbits k ≠ 0) (h0 : 0 ≤ n) (hn : n < 256 ^ (nbits k / 8).toNat) (h : T.data.toList = b ++ (be (nbits k / 8).toNat n ++ r)) :
    rnum T b.length 0 k = (n.toNat, b.length + (be (nbits k / 8).toNat n).length, 0) := by
  have hkk : k = ((be (nbits k / 8).toNat n).length : Int) := by
    rw [be_len]
    rcases Ref.nbits_some hk with rfl | rfl | rfl <;> decide
  unfold rnum
  rw [if_neg (by simp), if_neg hk, rraw_seg T b _ r h k hkk]
  have := natOf_be (nbits k / 8).toNat n h0 hn
  simp only
  congr 1
  omega
theorem rtext_seg (T : ByteArray) (b r : List UInt8) (S : ByteArray) (hs : S.size ≤ 65535) (h : T.data.toList = b ++ ((be 2 S.size ++ S.data.toList) ++ r)) :
    rtext T b.length 0 65535 = (S, b.length + (be 2 S.size ++ S.data.toList).length, 0) := by
  have h1 := rnum_seg T b (S.data.toList ++ r) S.size 2 (by decide) (by omega) (by simp [nbits]; omega) (by rw [h, List.append_assoc]; rfl)
  have hb2 : (be (nbits 2 / 8).toNat (S.size : Int)) = be 2 S.size := rfl
  rw [hb2] at h1
  have h2 := rraw_seg T (b ++ be 2 S.size) S.data.toList r (by rw [h]; simp [List.append_assoc]) (S.size : Int) (by simp)
  unfold rtext
  rw [h1]
  simp only [ne_eq, not_true_eq_false, if_false, Int.toNat_natCast]
  rw [if_neg (by omega), ← List.length_append, h2]
  simp [Nat.add_assoc]
end OctBk
end Go.Proofs.Ytbeiaobdapapjaa
