/-
  Entries, there and back: plain law.
-/
import Derived.Test.YtmnmemeldjbifaaEnB
import Derived.Test.YtmnmemeldjbifaaSeg
set_option linter.unusedVariables false
set_option linter.unusedSimpArgs false
namespace Go.Proofs.Ytmnmemeldjbifaa
open Go.RowKit
namespace En
open Oct Ids OctRd Seg
open Ref (endv)

theorem toL (B : ByteArray) : (⟨B.data.toList.toArray⟩ : ByteArray) = B := by apply ByteArray.ext; simp
theorem emp_of {B : ByteArray} (h : B.size = 0) : B = ByteArray.empty := by
  apply ByteArray.ext
  exact Array.eq_empty_of_size_eq_zero h
theorem rdT_seg {s : ByteArray} {a : Nat} {t : Bool} {T : ByteArray} {r : List UInt8} (h : dr s a = (if t = true then be 1 T.size ++ T.data.toList else []) ++ r) (h0 : t = false → T = ByteArray.empty) (hT : T.size ≤ 255) (hle : a ≤ s.size) :
    ∃ a', rdT s a 0 t = (T, a', 0) ∧ dr s a' = r ∧ a' ≤ s.size := by
  cases t with
  | false => rw [h0 rfl]; exact ⟨a, rfl, by simpa using h, hle⟩
  | true =>
    rw [if_pos rfl, List.append_assoc] at h
    obtain ⟨a1, a2, a3⟩ := num_seg (k := 1) h (by decide) (by decide) (by omega) (by simp; omega) hle
    obtain ⟨b1, b2, b3⟩ := raw_seg a2 (T.size : Int) (by rw [len_s]) a3
    refine ⟨_, ?_, b2, b3⟩
    show rraw s (rnum s a 0 1).2.1 (rnum s a 0 1).2.2 (rnum s a 0 1).1 = _
    rw [a1]
    simp only [Int.toNat_natCast]
    rw [b1, toL]
theorem rdC_seg {s : ByteArray} {a : Nat} {cm : Bool} {c r : List UInt8} (h : dr s a = (if cm = true then c else []) ++ r) (h0 : cm = false → c = Z32) (hc : c.length = 32) (hle : a ≤ s.size) :
    ∃ a', rdC s a 0 cm = (c, a', 0) ∧ dr s a' = r ∧ a' ≤ s.size := by
  cases cm with
  | false => rw [h0 rfl]; exact ⟨a, rfl, by simpa using h, hle⟩
  | true =>
    rw [if_pos rfl] at h
    obtain ⟨b1, b2, b3⟩ := raw_seg h (32 : Int) (by rw [hc]; rfl) hle
    refine ⟨_, ?_, b2, b3⟩
    show (pad (rraw s a 0 32).1.data.toList, (rraw s a 0 32).2.1, (rraw s a 0 32).2.2) = _
    rw [b1]
    simp only [pad_full c hc]
theorem rdB_seg {s : ByteArray} {a : Nat} {bo : Bool} {B : ByteArray} (h : dr s a = B.data.toList) (h0 : bo = false → B = ByteArray.empty) (hle : a ≤ s.size) :
    rdB s a 0 bo = (B, s.size, 0) := by
  have hl : s.size - a = B.size := by rw [← dr_len, h, len_s]
  cases bo with
  | false =>
    have := h0 rfl
    subst this
    have e : a = s.size := by have : ByteArray.empty.size = 0 := rfl; omega
    rw [e]; rfl
  | true =>
    obtain ⟨b1, b2, b3⟩ := raw_seg (x := B.data.toList) (r := []) (by rw [List.append_nil]; exact h) ((s.size : Int) - a) (by rw [len_s]; omega) hle
    show rraw s a 0 (if (0 : Int) = 0 then (s.size : Int) - a else 0) = _
    rw [if_pos rfl, b1, toL, len_s]
    rw [show a + B.size = s.size by omega]
theorem ck_zero {K : Int} {T B : ByteArray} {c : List UInt8} (h : ck K T B c = 0) : (pT K = false → T = ByteArray.empty) ∧ (pC K = false → c = Z32) ∧ (pB K = 0 → B = ByteArray.empty) := by
  unfold ck at h
  split at h
  · omega
  split at h
  · omega
  rename_i h1
  simp only [not_or, not_and, ne_eq, Classical.not_not] at h1
  exact ⟨fun e => emp_of (h1.1 e), fun e => h1.2.1 e, fun e => emp_of (h1.2.2 e)⟩
theorem pB_pos (K : Int) : pB K = 0 ∨ 0 < pB K := by unfold pB; split; omega; split; omega; split <;> omega
/-- What was put is read as it was. -/
theorem ofe_en (K : Int) (T B : ByteArray) (c : List UInt8) (hc : c.length = 32) (h : ck K T B c = 0) : ofe ⟨(en K T B c).toArray⟩ = ⟨0, K, T, B, c⟩ := by
  obtain ⟨hT, hB, h1, h7⟩ := len_T h
  obtain ⟨z1, z2, z3⟩ := ck_zero h
  obtain ⟨s, hs⟩ : ∃ s : ByteArray, (⟨(en K T B c).toArray⟩ : ByteArray) = s := ⟨_, rfl⟩
  have hd : dr s 0 = en K T B c := by rw [← hs]; rfl
  rw [hs]
  unfold en at hd
  obtain ⟨a1, a2, a3⟩ := num_seg (k := 1) hd (by decide) (by decide) (by omega) (by simp; omega) (Nat.zero_le _)
  obtain ⟨x, x1, x2, x3⟩ := rdT_seg a2 z1 hT a3
  obtain ⟨y, y1, y2, y3⟩ := rdC_seg x2 z2 hc x3
  have hbo : decide (0 < pB K) = false → B = ByteArray.empty := fun e => z3 (by have := of_decide_eq_false e; have := pB_pos K; omega)
  have y4 := rdB_seg y2 hbo y3
  have hKn : ((K.toNat : Nat) : Int) = K := Int.toNat_of_nonneg (by omega)
  have := ofe_eq (s := s) (n := K.toNat) (a2 := x) (b2 := 0) (a3 := y) (b3 := 0) (a4 := s.size) (b4 := 0) (T := T) (B := B) (c := c) a1 (by rw [hKn]; exact ⟨h1, h7⟩) (by rw [hKn]; exact x1) (by rw [hKn]; exact y1) (by rw [hKn]; exact y4)
  rw [← this]
  have he : endv s s.size 0 = 0 := by unfold endv; rw [if_pos rfl, if_pos rfl]
  rw [hKn, he, h, if_neg (by simp), if_neg (by simp)]
theorem rdT_ok {s : ByteArray} {a : Nat} {t : Bool} {T : ByteArray} {a' : Nat} (h : rdT s a 0 t = (T, a', 0)) (hle : a ≤ s.size) : dr s a = (if t = true then be 1 T.size ++ T.data.toList else []) ++ dr s a' ∧ a' ≤ s.size := by
  cases t with
  | false =>
    have h' : ((ByteArray.empty : ByteArray), a, (0 : Int)) = (T, a', 0) := h
    simp only [Prod.mk.injEq] at h'
    obtain ⟨_, rfl, _⟩ := h'
    exact ⟨by simp, hle⟩
  | true =>
    obtain ⟨⟨n, a0, b0⟩, hn⟩ : ∃ p, rnum s a 0 1 = p := ⟨_, rfl⟩
    have h' : rraw s (rnum s a 0 1).2.1 (rnum s a 0 1).2.2 (rnum s a 0 1).1 = (T, a', 0) := h
    rw [hn] at h'
    by_cases hb : b0 = 0
    · subst hb
      obtain ⟨e1, l1⟩ := num_ok (k := 1) (m := 1) (by decide) (by decide) hn hle
      obtain ⟨e2, l2, e3⟩ := raw_ok h' l1
      have e3' : T.size = n := e3
      rw [if_pos rfl, e1, e2, ← e3', List.append_assoc]
      exact ⟨rfl, l2⟩
    · have := (raw_stuck h' hb).2.2
      exact absurd this.symm hb
theorem rdC_ok {s : ByteArray} {a : Nat} {b : Int} {cm : Bool} {c : List UInt8} {a' : Nat} (h : rdC s a b cm = (c, a', 0)) (hle : a ≤ s.size) : b = 0 ∧ dr s a = (if cm = true then c else []) ++ dr s a' ∧ a' ≤ s.size := by
  cases cm with
  | false =>
    have h' : (Z32, a, b) = (c, a', 0) := h
    simp only [Prod.mk.injEq] at h'
    obtain ⟨_, rfl, rfl⟩ := h'
    exact ⟨rfl, by simp, hle⟩
  | true =>
    obtain ⟨⟨x, a0, b0⟩, hx⟩ : ∃ p, rraw s a b 32 = p := ⟨_, rfl⟩
    have h' : (pad (rraw s a b 32).1.data.toList, (rraw s a b 32).2.1, (rraw s a b 32).2.2) = (c, a', 0) := h
    rw [hx] at h'
    simp only [Prod.mk.injEq] at h'
    obtain ⟨rfl, rfl, rfl⟩ := h'
    by_cases hb : b = 0
    · subst hb
      obtain ⟨e1, l1, e2⟩ := raw_ok (k := 32) hx hle
      rw [if_pos rfl, pad_full _ (by rw [len_s, e2]), e1]
      exact ⟨rfl, rfl, l1⟩
    · have := (raw_stuck hx hb).2.2
      exact absurd this.symm hb
theorem rdB_ok {s : ByteArray} {a : Nat} {b : Int} {bo : Bool} {B : ByteArray} {a' : Nat} (h : rdB s a b bo = (B, a', 0)) (hle : a ≤ s.size) : b = 0 ∧ dr s a = B.data.toList ++ dr s a' ∧ a' ≤ s.size := by
  cases bo with
  | false =>
    have h' : ((ByteArray.empty : ByteArray), a, b) = (B, a', 0) := h
    simp only [Prod.mk.injEq] at h'
    obtain ⟨rfl, rfl, rfl⟩ := h'
    exact ⟨rfl, rfl, hle⟩
  | true =>
    have h' : rraw s a b (if b = 0 then (s.size : Int) - a else 0) = (B, a', 0) := h
    by_cases hb : b = 0
    · subst hb
      rw [if_pos rfl, show (s.size : Int) - a = ((s.size - a : Nat) : Int) by omega] at h'
      obtain ⟨e1, l1, _⟩ := raw_ok h' hle
      exact ⟨rfl, e1, l1⟩
    · have := (raw_stuck h' hb).2.2
      exact absurd this.symm hb
/-- What was read is put as it was. -/
theorem en_ofe (s : ByteArray) (h : (ofe s).e = 0) : ck (ofe s).K (ofe s).T (ofe s).B (ofe s).c = 0 ∧ (⟨(en (ofe s).K (ofe s).T (ofe s).B (ofe s).c).toArray⟩ : ByteArray) = s ∧ (ofe s).c.length = 32 ∧ (ofe s).T.size ≤ s.size ∧ (ofe s).B.size ≤ s.size := by
  obtain ⟨⟨n, a1, b1⟩, hn⟩ : ∃ p, rnum s 0 0 1 = p := ⟨_, rfl⟩
  by_cases hb : b1 = 0
  case neg =>
    have e : ofe s = oz b1 := by unfold ofe; simp only [hn]; rw [if_pos hb]
    rw [e] at h
    exact absurd h hb
  subst hb
  by_cases hK : (n : Int) < 1 ∨ 7 < (n : Int)
  · have e : ofe s = oz 10 := by unfold ofe; simp only [hn]; rw [if_neg (by simp), if_pos hK]
    rw [e] at h
    exact absurd h (by decide)
  obtain ⟨⟨T, a2, b2⟩, hT⟩ : ∃ p, rdT s a1 0 (pT n) = p := ⟨_, rfl⟩
  obtain ⟨⟨c, a3, b3⟩, hC⟩ : ∃ p, rdC s a2 b2 (pC n) = p := ⟨_, rfl⟩
  obtain ⟨⟨B, a4, b4⟩, hB⟩ : ∃ p, rdB s a3 b3 (decide (0 < pB n)) = p := ⟨_, rfl⟩
  have e := ofe_eq hn (by omega) hT hC hB
  rw [← e] at h ⊢
  by_cases hf : endv s a4 b4 = 0
  case neg => rw [if_pos hf] at h; exact absurd h hf
  rw [if_neg (by simp [hf])] at h ⊢
  by_cases hg : ck n T B c = 0
  case neg => rw [if_pos hg] at h; exact absurd h hg
  rw [if_neg (by simp [hg])]
  obtain ⟨rfl, rfl⟩ := end_ok hf
  obtain ⟨e1, l1⟩ := num_ok (k := 1) (m := 1) (by decide) (by decide) hn (Nat.zero_le _)
  have l2 : a2 ≤ s.size := by
    have h2 := hT
    cases ht : pT n with
    | false =>
      rw [ht] at h2
      have h' : ((ByteArray.empty : ByteArray), a1, (0 : Int)) = (T, a2, b2) := h2
      simp only [Prod.mk.injEq] at h'
      omega
    | true =>
      rw [ht] at h2
      have h' : rraw s (rnum s a1 0 1).2.1 (rnum s a1 0 1).2.2 (rnum s a1 0 1).1 = (T, a2, b2) := h2
      have := OctRd.rraw_le s (rnum s a1 0 1).2.1 (rnum s a1 0 1).2.2 (rnum s a1 0 1).1 (OctRd.rnum_le s a1 0 1 l1)
      rw [h'] at this
      exact this
  have l3 : a3 ≤ s.size := by
    have h2 := hC
    cases ht : pC n with
    | false =>
      rw [ht] at h2
      have h' : (Z32, a2, b2) = (c, a3, b3) := h2
      simp only [Prod.mk.injEq] at h'
      omega
    | true =>
      rw [ht] at h2
      have h' : (pad (rraw s a2 b2 32).1.data.toList, (rraw s a2 b2 32).2.1, (rraw s a2 b2 32).2.2) = (c, a3, b3) := h2
      simp only [Prod.mk.injEq] at h'
      have := OctRd.rraw_le s a2 b2 32 l2
      omega
  obtain ⟨rfl, e4, _⟩ := rdB_ok hB l3
  obtain ⟨rfl, e3, _⟩ := rdC_ok hC l2
  obtain ⟨e2, _⟩ := rdT_ok hT l1
  have q1 := rdT_le s a1 0 (pT n)
  have q2 := rdB_le s a3 0 (decide (0 < pB n))
  have q3 := rdC_len s a2 0 (pC n)
  rw [hT] at q1
  rw [hB] at q2
  rw [hC] at q3
  refine ⟨hg, ?_, q3, q1, q2⟩
  have hd : dr s 0 = en n T B c := by rw [e1, e2, e3, e4, dr_end, List.append_nil]; rfl
  have h0 : dr s 0 = s.data.toList := rfl
  rw [← hd, h0]
theorem en_len (K : Int) (T B : ByteArray) (c : List UInt8) (hc : c.length = 32) : (en K T B c).length ≤ 34 + T.size + B.size := by
  have h1 : (if pT K = true then be 1 T.size ++ T.data.toList else []).length ≤ 1 + T.size := by
    split
    · rw [List.length_append, be_len, len_s]; omega
    · simp
  have h2 : (if pC K = true then c else []).length ≤ 32 := by
    split
    · omega
    · simp
  unfold en
  rw [List.length_append, List.length_append, List.length_append, be_len, len_s]
  omega
theorem ofe_err (s : ByteArray) (h : (ofe s).e ≠ 0) : (ofe s).K = 0 ∧ (ofe s).T = ByteArray.empty ∧ (ofe s).B = ByteArray.empty ∧ (ofe s).c = Z32 := by
  obtain ⟨o, ho⟩ : ∃ o, ofe s = o := ⟨_, rfl⟩
  rw [ho] at h ⊢
  unfold ofe at ho
  simp only at ho
  repeat' split at ho
  all_goals
    subst ho
    first
      | exact ⟨rfl, rfl, rfl, rfl⟩
      | exact absurd rfl h
end En
end Go.Proofs.Ytmnmemeldjbifaa
