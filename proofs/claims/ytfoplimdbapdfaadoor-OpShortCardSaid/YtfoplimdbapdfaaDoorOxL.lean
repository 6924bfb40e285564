/-
  Operations, there and back: plain law. No beginning of an operation's bytes is one.
-/
import Derived.Test.YtfoplimdbapdfaaDoorOxM
import Derived.Test.YtfoplimdbapdfaaDoorSeg
set_option linter.unusedVariables false
set_option linter.unusedSimpArgs false
namespace Go.Proofs.YtfoplimdbapdfaaDoor
open Go.RowKit
namespace Seg
open Oct Ids OctRd
open Ref (endv)
theorem raw_short {s : ByteArray} {a : Nat} {k : Int} (h : (s.size : Int) - a < k) (h0 : 0 ≤ k) : rraw s a 0 k = (ByteArray.empty, a, 2) := by
  unfold rraw
  rw [if_neg (by simp), if_neg (by omega), if_pos h]
theorem num_short {s : ByteArray} {a : Nat} {k : Int} (hk : nbits k ≠ 0) (h : (s.size : Int) - a < k) (h0 : 0 ≤ k) : rnum s a 0 k = (0, a, 2) := by
  unfold rnum
  rw [if_neg (by simp), if_neg hk, raw_short h h0]
  rfl
theorem raw_bad (s : ByteArray) (a : Nat) {b : Int} (k : Int) (hb : b ≠ 0) : rraw s a b k = (ByteArray.empty, a, b) := by unfold rraw; rw [if_pos hb]
theorem num_bad (s : ByteArray) (a : Nat) {b : Int} (k : Int) (hb : b ≠ 0) : rnum s a b k = (0, a, b) := by unfold rnum; rw [if_pos hb]
theorem ids_pos (s : ByteArray) (a : Nat) : ∀ k, a + 32 * k ≤ s.size → (rdIds s a 0 k).2 = (a + 32 * k, 0)
  | 0, _ => rfl
  | k + 1, h => by
    have ih := ids_pos s a k (by omega)
    show ((rraw s (rdIds s a 0 k).2.1 (rdIds s a 0 k).2.2 32).2.1, (rraw s (rdIds s a 0 k).2.1 (rdIds s a 0 k).2.2 32).2.2) = _
    rw [ih]
    have e : rraw s (a + 32 * k) 0 32 = (s.extract (a + 32 * k) (a + 32 * k + 32), a + 32 * k + 32, 0) := by
      unfold rraw
      rw [if_neg (by simp), if_neg (by omega), if_neg (by omega)]
      rfl
    simp only
    rw [e]
    simp only [Prod.mk.injEq, and_true]
    omega
theorem ids_short (s : ByteArray) (a : Nat) : ∀ k, s.size < a + 32 * k → a ≤ s.size → (rdIds s a 0 k).2.2 = 2
  | 0, h, hle => by omega
  | k + 1, h, hle => by
    show (rraw s (rdIds s a 0 k).2.1 (rdIds s a 0 k).2.2 32).2.2 = 2
    by_cases hk : s.size < a + 32 * k
    · rw [ids_short s a k hk hle, raw_bad _ _ _ (by omega)]
    · have := ids_pos s a k (by omega)
      rw [this]
      simp only
      rw [raw_short (by omega) (by omega)]
end Seg
namespace Ox
open Oct Ids OctRd Seg
open Ref (endv)

theorem toLB (B : ByteArray) : (⟨B.data.toList.toArray⟩ : ByteArray) = B := by apply ByteArray.ext; simp
theorem rdR_seg {s : ByteArray} {a : Nat} {p : Bool} {r q : List UInt8} (h : dr s a = (if p = true then r else []) ++ q) (h0 : p = false → r = Z32) (hr : r.length = 32) (hle : a ≤ s.size) : ∃ a', rdR s a 0 p = (r, a', 0) ∧ dr s a' = q ∧ a' ≤ s.size := by
  cases p with
  | false => rw [h0 rfl]; exact ⟨a, rfl, by simpa using h, hle⟩
  | true =>
    rw [if_pos rfl] at h
    obtain ⟨b1, b2, b3⟩ := raw_seg h (32 : Int) (by rw [hr]; rfl) hle
    refine ⟨_, ?_, b2, b3⟩
    show (pad (rraw s a 0 32).1.data.toList, (rraw s a 0 32).2.1, (rraw s a 0 32).2.2) = _
    rw [b1]
    simp only [pad_full r hr]
theorem rdT_seg {s : ByteArray} {a : Nat} {p : Bool} {T : ByteArray} {q : List UInt8} (h : dr s a = (if p = true then sh T else []) ++ q) (h0 : p = false → T = ByteArray.empty) (hT : T.size ≤ 255) (hle : a ≤ s.size) : ∃ a', rdT s a 0 p = (T, a', 0) ∧ dr s a' = q ∧ a' ≤ s.size := by
  cases p with
  | false => rw [h0 rfl]; exact ⟨a, rfl, by simpa using h, hle⟩
  | true =>
    rw [if_pos rfl, sh, List.append_assoc] at h
    obtain ⟨a1, a2, a3⟩ := num_seg (k := 1) h (by decide) (by decide) (by omega) (by simp; omega) hle
    obtain ⟨b1, b2, b3⟩ := raw_seg a2 (T.size : Int) (by rw [len_s]) a3
    refine ⟨_, ?_, b2, b3⟩
    show rraw s (rnum s a 0 1).2.1 (rnum s a 0 1).2.2 (rnum s a 0 1).1 = _
    rw [a1]
    simp only [Int.toNat_natCast]
    rw [b1, toLB]
theorem rdN_seg {s : ByteArray} {a : Nat} {p : Bool} {m : Nat} {q : List UInt8} (h : dr s a = (if p = true then be 4 (m : Int) else []) ++ q) (h0 : p = false → m = 0) (hm : m < 4294967296) (hle : a ≤ s.size) : ∃ a', rdN s a 0 p = (m, a', 0) ∧ dr s a' = q ∧ a' ≤ s.size := by
  cases p with
  | false => rw [h0 rfl]; exact ⟨a, rfl, by simpa using h, hle⟩
  | true =>
    rw [if_pos rfl] at h
    obtain ⟨a1, a2, a3⟩ := num_seg (k := 4) h (by decide) (by decide) (by omega) (by simp; omega) hle
    refine ⟨_, ?_, a2, a3⟩
    show rnum s a 0 4 = _
    rw [a1, Int.toNat_natCast]
theorem rdS_seg {s : ByteArray} {a : Nat} {p : Bool} {l : List (List UInt8)} {q : List UInt8} (h : dr s a = (if p = true then rf l else []) ++ q) (h0 : p = false → l = []) (hl : l.length ≤ 255) (h32 : ∀ x ∈ l, x.length = 32) (hle : a ≤ s.size) : ∃ a', rdS s a 0 p = (l, a', 0) ∧ dr s a' = q ∧ a' ≤ s.size := by
  cases p with
  | false => rw [h0 rfl]; exact ⟨a, rfl, by simpa using h, hle⟩
  | true =>
    rw [if_pos rfl, rf, List.append_assoc] at h
    obtain ⟨a1, a2, a3⟩ := num_seg (k := 1) h (by decide) (by decide) (by omega) (by simp; omega) hle
    obtain ⟨b1, b2, b3⟩ := ids_seg a3 l q h32 a2 l.length (Nat.le_refl _)
    refine ⟨_, ?_, by simpa using b2, b3⟩
    show rdIds s (rnum s a 0 1).2.1 (rnum s a 0 1).2.2 (rnum s a 0 1).1 = _
    rw [a1]
    simp only [Int.toNat_natCast]
    rw [b1, List.take_length]
theorem z_of {K N : Int} {Y V : ByteArray} {r : List UInt8} {n : Nat} (h : sp K N Y V r n = false) : (iN K = false → N = 0) ∧ (iK K = false → Y = ByteArray.empty) ∧ (iV K = false → V = ByteArray.empty) ∧ (iR K = false → r = Z32) ∧ (iS K = false → n = 0) := by
  unfold sp at h
  simp only [Bool.or_eq_false_iff, Bool.and_eq_false_imp, Bool.not_eq_true', decide_eq_false_iff_not] at h
  obtain ⟨⟨⟨⟨h1, h2⟩, h3⟩, h4⟩, h5⟩ := h
  exact ⟨fun e => Classical.not_not.1 (h1 e), fun e => empty_of (Classical.not_not.1 (h2 e)), fun e => empty_of (Classical.not_not.1 (h3 e)), fun e => Classical.not_not.1 (h4 e), fun e => by have := h5 e; omega⟩
/-- The number, as it is written. -/
theorem wn {K N : Int} (hK : 1 ≤ K ∧ K ≤ 7) (hb : nb K N = true) (h0 : iN K = false → N = 0) : ∃ m : Nat, m < 4294967296 ∧ nv K m = N ∧ (iN K = true → (m : Int) = N + shf K) ∧ (iN K = false → m = 0) := by
  obtain ⟨n1, n2, n3⟩ := nb_rng hb
  cases hN : iN K with
  | false =>
    refine ⟨0, by omega, ?_, fun e => absurd e (by decide), fun _ => rfl⟩
    unfold nv
    rw [hN, h0 hN]
    rfl
  | true =>
    have hk : K = 1 ∨ K = 4 := of_decide_eq_true hN
    refine ⟨(N + shf K).toNat, ?_, ?_, ?_, fun e => absurd e (by decide)⟩
    · rcases hk with rfl | rfl
      · have e : shf 1 = 2147483648 := rfl
        omega
      · have e : shf 4 = 0 := rfl
        have := n3 rfl
        omega
    · unfold nv
      rw [hN, if_pos rfl]
      rcases hk with rfl | rfl
      · have e : shf 1 = 2147483648 := rfl
        omega
      · have e : shf 4 = 0 := rfl
        have := n3 rfl
        omega
    · intro _
      rcases hk with rfl | rfl
      · have e : shf 1 = 2147483648 := rfl
        omega
      · have e : shf 4 = 0 := rfl
        have := n3 rfl
        omega
theorem body_eq (K N : Int) (Y V : ByteArray) (r : List UInt8) (l : List (List UInt8)) (m : Nat) (hm : iN K = true → (m : Int) = N + shf K) :
    body K N Y V r l = (if iR K = true then r else []) ++ ((if iK K = true then sh Y else []) ++ ((if iV K = true then sh V else []) ++ ((if iN K = true then be 4 (m : Int) else []) ++ ((if iS K = true then rf l else []) ++ [])))) := by
  unfold body
  rw [List.append_nil]
  cases h : iN K with
  | false => rfl
  | true => rw [hm h]
/-- What was put is read as it was; with something behind it, it is none. -/
theorem ofo_seg (T : ByteArray) (B : List UInt8) (K N : Int) (Y V : ByteArray) (r : List UInt8) (l : List (List UInt8)) (h : dr T 0 = ob K N Y V r l ++ B) (hc : ck K N Y V r l.length l = 0) (hr : r.length = 32) (h32 : ∀ x ∈ l, x.length = 32) :
    ofo T = if B = [] then ⟨0, K, N, Y, V, r, l⟩ else oz 4 := by
  obtain ⟨hK, hsp, hY, hV, hb, hn, _⟩ := ck_ok hc
  obtain ⟨z1, z2, z3, z4, z5⟩ := z_of hsp
  obtain ⟨m, hm1, hm2, hm3, hm4⟩ := wn hK hb z1
  unfold ob at h
  rw [body_eq K N Y V r l m hm3] at h
  simp only [List.append_assoc, List.nil_append] at h
  obtain ⟨a1, a2, a3⟩ := num_seg (k := 1) h (by decide) (by decide) (by omega) (by simp; omega) (Nat.zero_le _)
  obtain ⟨p1, c1, d1, e1⟩ := rdR_seg a2 z4 hr a3
  obtain ⟨p2, c2, d2, e2⟩ := rdT_seg d1 z2 (by omega) e1
  obtain ⟨p3, c3, d3, e3⟩ := rdT_seg d2 z3 (by omega) e2
  obtain ⟨p4, c4, d4, e4⟩ := rdN_seg d3 hm4 hm1 e3
  obtain ⟨p5, c5, d5, e5⟩ := rdS_seg d4 (fun e => List.eq_nil_of_length_eq_zero (z5 e)) (by omega) h32 e4
  have hKn : ((K.toNat : Nat) : Int) = K := Int.toNat_of_nonneg (by omega)
  have := ofo_eq (s := T) (n := K.toNat) (a1 := p1) (a2 := p2) (a3 := p3) (a4 := p4) (a5 := p5) (b1 := 0) (b2 := 0) (b3 := 0) (b4 := 0) (b5 := 0) (r := r) (Y := Y) (V := V) (m := m) (l := l) a1 (by rw [hKn]; exact hK) (by rw [hKn]; exact c1) (by rw [hKn]; exact c2) (by rw [hKn]; exact c3) (by rw [hKn]; exact c4) (by rw [hKn]; exact c5)
  rw [← this, hKn, hm2, hc]
  have hd := dr_len T p5
  rw [d5] at hd
  unfold fin endv
  rw [if_pos rfl]
  by_cases hB : B = []
  · subst hB
    have : p5 = T.size := by simp at hd; omega
    rw [if_pos this, if_pos rfl, if_neg (by simp), if_neg (by simp)]
  · have hp : 0 < B.length := List.length_pos_iff.2 hB
    rw [if_neg (show ¬ p5 = T.size by omega), if_neg hB]
    rfl
theorem ofo_ob (K N : Int) (Y V : ByteArray) (r : List UInt8) (l : List (List UInt8)) (hc : ck K N Y V r l.length l = 0) (hr : r.length = 32) (h32 : ∀ x ∈ l, x.length = 32) : ofo ⟨(ob K N Y V r l).toArray⟩ = ⟨0, K, N, Y, V, r, l⟩ := by
  rw [ofo_seg ⟨(ob K N Y V r l).toArray⟩ [] K N Y V r l (by rw [List.append_nil]; rfl) hc hr h32, if_pos rfl]
theorem if_len {p : Bool} {x : List UInt8} {k : Nat} (h : x.length ≤ k) : (if p = true then x else []).length ≤ k := by
  split
  · exact h
  · exact Nat.zero_le _
theorem ob_len (K N : Int) (Y V : ByteArray) (r : List UInt8) (l : List (List UInt8)) (hc : ck K N Y V r l.length l = 0) (hr : r.length = 32) (h32 : ∀ x ∈ l, x.length = 32) : 1 ≤ (ob K N Y V r l).length ∧ (ob K N Y V r l).length ≤ 512 := by
  obtain ⟨_, _, hY, hV, _, hn, _⟩ := ck_ok hc
  have q1 : (if iR K = true then r else []).length ≤ 32 := if_len (by omega)
  have q2 : (if iK K = true then sh Y else []).length ≤ 17 := if_len (by rw [sh_len]; omega)
  have q3 : (if iV K = true then sh V else []).length ≤ 17 := if_len (by rw [sh_len]; omega)
  have q4 : (if iN K = true then be 4 (N + shf K) else []).length ≤ 4 := if_len (by rw [be_len]; exact Nat.le_refl _)
  have q5 : (if iS K = true then rf l else []).length ≤ 257 := if_len (by unfold rf; rw [List.length_append, be_len, flat_len l h32]; omega)
  unfold ob body
  simp only [List.length_append, be_len]
  omega
/-! A beginning of it is too short. -/
theorem take_ge {x q : List UInt8} {j : Nat} (h : x.length ≤ j) : (x ++ q).take j = x ++ q.take (j - x.length) := by rw [List.take_append, List.take_of_length_le h]
theorem rdR_bad (s : ByteArray) (a : Nat) {b : Int} (p : Bool) (hb : b ≠ 0) : (rdR s a b p).2.2 = b := by
  cases p with
  | false => rfl
  | true => show (rraw s a b 32).2.2 = b; rw [raw_bad _ _ _ hb]
theorem rdT_bad (s : ByteArray) (a : Nat) {b : Int} (p : Bool) (hb : b ≠ 0) : (rdT s a b p).2.2 = b := by
  cases p with
  | false => rfl
  | true => show (rraw s (rnum s a b 1).2.1 (rnum s a b 1).2.2 (rnum s a b 1).1).2.2 = b; rw [num_bad _ _ _ hb]; simp only; rw [raw_bad _ _ _ hb]
theorem rdN_bad (s : ByteArray) (a : Nat) {b : Int} (p : Bool) (hb : b ≠ 0) : (rdN s a b p).2.2 = b := by
  cases p with
  | false => rfl
  | true => show (rnum s a b 4).2.2 = b; rw [num_bad _ _ _ hb]
theorem rdS_bad (s : ByteArray) (a : Nat) {b : Int} (p : Bool) (hb : b ≠ 0) : (rdS s a b p).2.2 = b := by
  cases p with
  | false => rfl
  | true => show (rdIds s (rnum s a b 1).2.1 (rnum s a b 1).2.2 (rnum s a b 1).1).2.2 = b; rw [num_bad _ _ _ hb]; exact ids_stuck _ _ _ hb _
/-- Where a reader of a beginning stands: it has come through, or it was too short. -/
def Cut (s : ByteArray) (a : Nat) (b : Int) (q : List UInt8) : Prop := b = 2 ∨ (b = 0 ∧ a ≤ s.size ∧ ∃ j, dr s a = q.take j ∧ j < q.length)
theorem cut_len {s : ByteArray} {a j : Nat} {q : List UInt8} (h : dr s a = q.take j) (hj : j < q.length) : s.size - a = j := by
  rw [← dr_len, h, List.length_take]
  omega
theorem rdR_cut {s : ByteArray} {a : Nat} {b : Int} {p : Bool} {r q : List UInt8} (h : Cut s a b ((if p = true then r else []) ++ q)) (h0 : p = false → r = Z32) (hr : r.length = 32) : Cut s (rdR s a b p).2.1 (rdR s a b p).2.2 q := by
  rcases h with rfl | ⟨rfl, hle, j, hd, hj⟩
  · exact .inl (rdR_bad _ _ _ (by omega))
  by_cases hl : (if p = true then r else []).length ≤ j
  · rw [take_ge hl] at hd
    obtain ⟨a', e1, e2, e3⟩ := rdR_seg hd h0 hr hle
    rw [e1]
    rw [List.length_append] at hj
    exact .inr ⟨rfl, e3, _, e2, by omega⟩
  · have hs := cut_len hd hj
    cases p with
    | false => exact absurd (Nat.zero_le j) hl
    | true =>
      rw [if_pos rfl, hr] at hl
      exact .inl (show (rraw s a 0 32).2.2 = 2 by rw [raw_short (by omega) (by omega)])
theorem rdT_cut {s : ByteArray} {a : Nat} {b : Int} {p : Bool} {T : ByteArray} {q : List UInt8} (h : Cut s a b ((if p = true then sh T else []) ++ q)) (h0 : p = false → T = ByteArray.empty) (hT : T.size ≤ 255) : Cut s (rdT s a b p).2.1 (rdT s a b p).2.2 q := by
  rcases h with rfl | ⟨rfl, hle, j, hd, hj⟩
  · exact .inl (rdT_bad _ _ _ (by omega))
  by_cases hl : (if p = true then sh T else []).length ≤ j
  · rw [take_ge hl] at hd
    obtain ⟨a', e1, e2, e3⟩ := rdT_seg hd h0 hT hle
    rw [e1]
    rw [List.length_append] at hj
    exact .inr ⟨rfl, e3, _, e2, by omega⟩
  · have hs := cut_len hd hj
    cases p with
    | false => exact absurd (Nat.zero_le j) hl
    | true =>
      rw [if_pos rfl, sh_len] at hl
      refine .inl ?_
      show (rraw s (rnum s a 0 1).2.1 (rnum s a 0 1).2.2 (rnum s a 0 1).1).2.2 = 2
      by_cases hj0 : j = 0
      · rw [num_short (by decide) (by omega) (by omega)]
        simp only
        rw [raw_bad _ _ _ (by omega)]
      · rw [if_pos rfl, sh, List.append_assoc, take_ge (by rw [be_len]; omega)] at hd
        obtain ⟨a1, a2, a3⟩ := num_seg (k := 1) hd (by decide) (by decide) (by omega) (by simp; omega) hle
        rw [a1]
        simp only [Int.toNat_natCast]
        rw [raw_short (by omega) (by omega)]
theorem rdN_cut {s : ByteArray} {a : Nat} {b : Int} {p : Bool} {m : Nat} {q : List UInt8} (h : Cut s a b ((if p = true then be 4 (m : Int) else []) ++ q)) (h0 : p = false → m = 0) (hm : m < 4294967296) : Cut s (rdN s a b p).2.1 (rdN s a b p).2.2 q := by
  rcases h with rfl | ⟨rfl, hle, j, hd, hj⟩
  · exact .inl (rdN_bad _ _ _ (by omega))
  by_cases hl : (if p = true then be 4 (m : Int) else []).length ≤ j
  · rw [take_ge hl] at hd
    obtain ⟨a', e1, e2, e3⟩ := rdN_seg hd h0 hm hle
    rw [e1]
    rw [List.length_append] at hj
    exact .inr ⟨rfl, e3, _, e2, by omega⟩
  · have hs := cut_len hd hj
    cases p with
    | false => exact absurd (Nat.zero_le j) hl
    | true =>
      rw [if_pos rfl, be_len] at hl
      exact .inl (show (rnum s a 0 4).2.2 = 2 by rw [num_short (by decide) (by omega) (by omega)])
theorem rdS_cut {s : ByteArray} {a : Nat} {b : Int} {p : Bool} {l : List (List UInt8)} {q : List UInt8} (h : Cut s a b ((if p = true then rf l else []) ++ q)) (h0 : p = false → l = []) (hl8 : l.length ≤ 255) (h32 : ∀ x ∈ l, x.length = 32) : Cut s (rdS s a b p).2.1 (rdS s a b p).2.2 q := by
  rcases h with rfl | ⟨rfl, hle, j, hd, hj⟩
  · exact .inl (rdS_bad _ _ _ (by omega))
  by_cases hl : (if p = true then rf l else []).length ≤ j
  · rw [take_ge hl] at hd
    obtain ⟨a', e1, e2, e3⟩ := rdS_seg hd h0 hl8 h32 hle
    rw [e1]
    rw [List.length_append] at hj
    exact .inr ⟨rfl, e3, _, e2, by omega⟩
  · have hs := cut_len hd hj
    cases p with
    | false => exact absurd (Nat.zero_le j) hl
    | true =>
      rw [if_pos rfl, rf, List.length_append, be_len, flat_len l h32] at hl
      refine .inl ?_
      show (rdIds s (rnum s a 0 1).2.1 (rnum s a 0 1).2.2 (rnum s a 0 1).1).2.2 = 2
      by_cases hj0 : j = 0
      · rw [num_short (by decide) (by omega) (by omega)]
        exact ids_stuck _ _ _ (show (2 : Int) ≠ 0 by decide) _
      · rw [if_pos rfl, rf, List.append_assoc, take_ge (by rw [be_len]; omega)] at hd
        obtain ⟨a1, a2, a3⟩ := num_seg (k := 1) hd (by decide) (by decide) (by omega) (by simp; omega) hle
        rw [a1]
        simp only [Int.toNat_natCast]
        exact ids_short s _ _ (by omega) a3
theorem ofo_cut (T : ByteArray) (k : Nat) (K N : Int) (Y V : ByteArray) (r : List UInt8) (l : List (List UInt8)) (h : dr T 0 = (ob K N Y V r l).take k) (hk : k < (ob K N Y V r l).length) (hc : ck K N Y V r l.length l = 0) (hr : r.length = 32) (h32 : ∀ x ∈ l, x.length = 32) : ofo T = oz 2 := by
  obtain ⟨hK, hsp, hY, hV, hb, hn, _⟩ := ck_ok hc
  obtain ⟨z1, z2, z3, z4, z5⟩ := z_of hsp
  obtain ⟨m, hm1, hm2, hm3, hm4⟩ := wn hK hb z1
  by_cases hk0 : k = 0
  · have hs := cut_len h hk
    have e := num_short (s := T) (a := 0) (k := 1) (by decide) (by omega) (by omega)
    unfold ofo
    simp only [e]
    rw [if_pos (by simp)]
  unfold ob at h hk
  rw [take_ge (by rw [be_len]; omega)] at h
  obtain ⟨a1, a2, a3⟩ := num_seg (k := 1) h (by decide) (by decide) (by omega) (by simp; omega) (Nat.zero_le _)
  have hKn : ((K.toNat : Nat) : Int) = K := Int.toNat_of_nonneg (by omega)
  rw [List.length_append, be_len] at hk
  have c0 : Cut T (0 + 1) 0 (body K N Y V r l) := .inr ⟨rfl, a3, _, a2, by rw [be_len]; omega⟩
  rw [body_eq K N Y V r l m hm3] at c0
  have c1 := rdR_cut c0 z4 hr
  have c2 := rdT_cut c1 z2 (by omega)
  have c3 := rdT_cut c2 z3 (by omega)
  have c4 := rdN_cut c3 hm4 hm1
  have c5 := rdS_cut c4 (fun e => List.eq_nil_of_length_eq_zero (z5 e)) (by omega) h32
  have hb5 : ∀ {a : Nat} {b : Int}, Cut T a b [] → b = 2 := fun h => by
    rcases h with e | ⟨_, _, j, _, hj⟩
    · exact e
    · exact absurd hj (Nat.not_lt_zero _)
  have b5 := hb5 c5
  unfold ofo
  simp only [a1]
  rw [if_neg (by simp), if_neg (by omega), hKn]
  unfold fin endv
  rw [b5]
  rfl
/-! What was read is put as it was. -/
theorem rdR_le (s : ByteArray) (a : Nat) (b : Int) (p : Bool) (h : a ≤ s.size) : (rdR s a b p).2.1 ≤ s.size := by
  cases p with
  | false => exact h
  | true => exact OctRd.rraw_le s a b 32 h
theorem rdT_le (s : ByteArray) (a : Nat) (b : Int) (p : Bool) (h : a ≤ s.size) : (rdT s a b p).2.1 ≤ s.size := by
  cases p with
  | false => exact h
  | true => exact OctRd.rraw_le s _ _ _ (OctRd.rnum_le s a b 1 h)
theorem rdN_le (s : ByteArray) (a : Nat) (b : Int) (p : Bool) (h : a ≤ s.size) : (rdN s a b p).2.1 ≤ s.size := by
  cases p with
  | false => exact h
  | true => exact OctRd.rnum_le s a b 4 h
theorem rdR_ok {s : ByteArray} {a : Nat} {b : Int} {p : Bool} {r : List UInt8} {a' : Nat} (h : rdR s a b p = (r, a', 0)) (hle : a ≤ s.size) : b = 0 ∧ dr s a = (if p = true then r else []) ++ dr s a' ∧ a' ≤ s.size := by
  cases p with
  | false =>
    have h' : (Z32, a, b) = (r, a', 0) := h
    simp only [Prod.mk.injEq] at h'
    obtain ⟨_, rfl, rfl⟩ := h'
    exact ⟨rfl, by simp, hle⟩
  | true =>
    obtain ⟨⟨x, a0, b0⟩, hx⟩ : ∃ p, rraw s a b 32 = p := ⟨_, rfl⟩
    have h' : (pad (rraw s a b 32).1.data.toList, (rraw s a b 32).2.1, (rraw s a b 32).2.2) = (r, a', 0) := h
    rw [hx] at h'
    simp only [Prod.mk.injEq] at h'
    obtain ⟨rfl, rfl, rfl⟩ := h'
    by_cases hb : b = 0
    · subst hb
      obtain ⟨e1, l1, e2⟩ := raw_ok (k := 32) hx hle
      rw [if_pos rfl, pad_full _ (by rw [len_s, e2]), e1]
      exact ⟨rfl, rfl, l1⟩
    · have := (raw_stuck hx hb).2.2
      exact absurd this.symm hb
theorem rdT_ok {s : ByteArray} {a : Nat} {b : Int} {p : Bool} {T : ByteArray} {a' : Nat} (h : rdT s a b p = (T, a', 0)) (hle : a ≤ s.size) : b = 0 ∧ dr s a = (if p = true then sh T else []) ++ dr s a' ∧ a' ≤ s.size := by
  cases p with
  | false =>
    have h' : ((ByteArray.empty : ByteArray), a, b) = (T, a', 0) := h
    simp only [Prod.mk.injEq] at h'
    obtain ⟨_, rfl, rfl⟩ := h'
    exact ⟨rfl, by simp, hle⟩
  | true =>
    by_cases hb0 : b = 0
    · subst hb0
      obtain ⟨⟨n, a0, b0⟩, hn⟩ : ∃ p, rnum s a 0 1 = p := ⟨_, rfl⟩
      have h' : rraw s (rnum s a 0 1).2.1 (rnum s a 0 1).2.2 (rnum s a 0 1).1 = (T, a', 0) := h
      rw [hn] at h'
      by_cases hb : b0 = 0
      · subst hb
        obtain ⟨e1, l1⟩ := num_ok (k := 1) (m := 1) (by decide) (by decide) hn hle
        obtain ⟨e2, l2, e3⟩ := raw_ok h' l1
        have e3' : T.size = n := e3
        rw [if_pos rfl, e1, e2, sh, ← e3', List.append_assoc]
        exact ⟨rfl, rfl, l2⟩
      · have := (raw_stuck h' hb).2.2
        exact absurd this.symm hb
    · have := rdT_bad s a true hb0
      rw [h] at this
      exact absurd this.symm hb0
theorem rdN_ok {s : ByteArray} {a : Nat} {b : Int} {p : Bool} {m : Nat} {a' : Nat} (h : rdN s a b p = (m, a', 0)) (hle : a ≤ s.size) : b = 0 ∧ dr s a = (if p = true then be 4 (m : Int) else []) ++ dr s a' ∧ a' ≤ s.size := by
  cases p with
  | false =>
    have h' : ((0 : Nat), a, b) = (m, a', 0) := h
    simp only [Prod.mk.injEq] at h'
    obtain ⟨_, rfl, rfl⟩ := h'
    exact ⟨rfl, by simp, hle⟩
  | true =>
    have h' : rnum s a b 4 = (m, a', 0) := h
    by_cases hb : b = 0
    · subst hb
      obtain ⟨e1, l1⟩ := num_ok (k := 4) (m := 4) (by decide) (by decide) h' hle
      rw [if_pos rfl]
      exact ⟨rfl, e1, l1⟩
    · have := (num_stuck h' hb).2.2
      exact absurd this.symm hb
theorem rdS_ok {s : ByteArray} {a : Nat} {b : Int} {p : Bool} {l : List (List UInt8)} {a' : Nat} (h : rdS s a b p = (l, a', 0)) (hle : a ≤ s.size) : b = 0 ∧ dr s a = (if p = true then rf l else []) ++ dr s a' ∧ a' ≤ s.size := by
  cases p with
  | false =>
    have h' : (([] : List (List UInt8)), a, b) = (l, a', 0) := h
    simp only [Prod.mk.injEq] at h'
    obtain ⟨_, rfl, rfl⟩ := h'
    exact ⟨rfl, by simp, hle⟩
  | true =>
    by_cases hb0 : b = 0
    · subst hb0
      obtain ⟨⟨n, a0, b0⟩, hn⟩ : ∃ p, rnum s a 0 1 = p := ⟨_, rfl⟩
      have h' : rdIds s (rnum s a 0 1).2.1 (rnum s a 0 1).2.2 (rnum s a 0 1).1 = (l, a', 0) := h
      rw [hn] at h'
      simp only at h'
      by_cases hb : b0 = 0
      · subst hb
        obtain ⟨e1, l1⟩ := num_ok (k := 1) (m := 1) (by decide) (by decide) hn hle
        obtain ⟨e2, l2⟩ := ids_ok s a0 l1 n (by rw [h'])
        have e3 := rdIds_len s a0 0 n
        rw [h'] at e2 l2 e3
        simp only at e2 l2 e3
        rw [if_pos rfl, e1, e2, rf, e3, List.append_assoc]
        exact ⟨rfl, rfl, l2⟩
      · have := ids_stuck s a0 b0 hb n
        rw [h'] at this
        exact absurd this.symm hb
    · have := rdS_bad s a true hb0
      rw [h] at this
      exact absurd this.symm hb0
theorem rdS_each (s : ByteArray) (a : Nat) (b : Int) (p : Bool) : ∀ x ∈ (rdS s a b p).1, x.length = 32 := by
  cases p with
  | false => intro x hx; cases hx
  | true => exact ids_each _ _ _ _
theorem fin_ok {f g K N : Int} {Y V : ByteArray} {r : List UInt8} {l : List (List UInt8)} (h : (fin f g K N Y V r l).e = 0) : f = 0 ∧ g = 0 ∧ fin f g K N Y V r l = ⟨0, K, N, Y, V, r, l⟩ := by
  unfold fin at h ⊢
  by_cases hf : f = 0
  · by_cases hg : g = 0
    · rw [if_neg (by simp [hf]), if_neg (by simp [hg])]
      exact ⟨hf, hg, rfl⟩
    · rw [if_neg (by simp [hf]), if_pos hg] at h
      exact absurd h hg
  · rw [if_pos hf] at h
    exact absurd h hf
theorem ob_ofo (s : ByteArray) (h : (ofo s).e = 0) : ck (ofo s).K (ofo s).N (ofo s).Y (ofo s).V (ofo s).r (ofo s).l.length (ofo s).l = 0 ∧ (⟨(ob (ofo s).K (ofo s).N (ofo s).Y (ofo s).V (ofo s).r (ofo s).l).toArray⟩ : ByteArray) = s := by
  obtain ⟨⟨n, a0, b0⟩, hn⟩ : ∃ p, rnum s 0 0 1 = p := ⟨_, rfl⟩
  by_cases hb : b0 = 0
  case neg =>
    have e : ofo s = oz b0 := by unfold ofo; simp only [hn]; rw [if_pos hb]
    rw [e] at h
    exact absurd h hb
  subst hb
  by_cases hK : (n : Int) < 1 ∨ 7 < (n : Int)
  · have e : ofo s = oz 10 := by unfold ofo; simp only [hn]; rw [if_neg (by simp), if_pos hK]
    rw [e] at h
    exact absurd h (by decide)
  have hK2 : 1 ≤ (n : Int) ∧ (n : Int) ≤ 7 := by omega
  obtain ⟨⟨r, a1, b1⟩, hR⟩ : ∃ p, rdR s a0 0 (iR n) = p := ⟨_, rfl⟩
  obtain ⟨⟨Y, a2, b2⟩, hY⟩ : ∃ p, rdT s a1 b1 (iK n) = p := ⟨_, rfl⟩
  obtain ⟨⟨V, a3, b3⟩, hV⟩ : ∃ p, rdT s a2 b2 (iV n) = p := ⟨_, rfl⟩
  obtain ⟨⟨m, a4, b4⟩, hN⟩ : ∃ p, rdN s a3 b3 (iN n) = p := ⟨_, rfl⟩
  obtain ⟨⟨l, a5, b5⟩, hS⟩ : ∃ p, rdS s a4 b4 (iS n) = p := ⟨_, rfl⟩
  have hO := ofo_eq hn hK2 hR hY hV hN hS
  rw [← hO] at h ⊢
  obtain ⟨hf, hg, he⟩ := fin_ok h
  rw [he]
  simp only
  obtain ⟨rfl, rfl⟩ := end_ok hf
  refine ⟨hg, ?_⟩
  have q0 := OctRd.rnum_le s 0 0 1 (Nat.zero_le _)
  rw [hn] at q0
  simp only at q0
  have l1 : a1 ≤ s.size := by have := rdR_le s a0 0 (iR n) q0; rw [hR] at this; exact this
  have l2 : a2 ≤ s.size := by have := rdT_le s a1 b1 (iK n) l1; rw [hY] at this; exact this
  have l3 : a3 ≤ s.size := by have := rdT_le s a2 b2 (iV n) l2; rw [hV] at this; exact this
  have l4 : a4 ≤ s.size := by have := rdN_le s a3 b3 (iN n) l3; rw [hN] at this; exact this
  obtain ⟨rfl, e5, _⟩ := rdS_ok hS l4
  obtain ⟨rfl, e4, _⟩ := rdN_ok hN l3
  obtain ⟨rfl, e3, _⟩ := rdT_ok hV l2
  obtain ⟨rfl, e2, _⟩ := rdT_ok hY l1
  obtain ⟨_, e1, _⟩ := rdR_ok hR q0
  obtain ⟨e0, _⟩ := num_ok (k := 1) (m := 1) (by decide) (by decide) hn (Nat.zero_le _)
  have hm : iN n = true → (m : Int) = nv n m + shf n := fun e => by unfold nv; rw [e, if_pos rfl]; omega
  have hd : dr s 0 = ob n (nv n m) Y V r l := by
    unfold ob
    rw [body_eq n (nv n m) Y V r l m hm, e0, e1, e2, e3, e4, e5, dr_end]
  have h0 : dr s 0 = s.data.toList := rfl
  rw [← hd, h0]
theorem ofo_err (s : ByteArray) (h : (ofo s).e ≠ 0) : ofo s = oz (ofo s).e := by
  obtain ⟨o, ho⟩ : ∃ o, ofo s = o := ⟨_, rfl⟩
  rw [ho] at h ⊢
  unfold ofo at ho
  simp only at ho
  split at ho
  · subst ho; rfl
  · split at ho
    · subst ho; rfl
    · unfold fin at ho
      split at ho
      · subst ho; rfl
      · split at ho
        · subst ho; rfl
        · subst ho; exact absurd rfl h
theorem bl_ne {K : Int} (h : 1 ≤ K ∧ K ≤ 7) : (bl K != 0) = true := by
  rcases (by omega : K = 1 ∨ K = 2 ∨ K = 3 ∨ K = 4 ∨ K = 5 ∨ K = 6 ∨ K = 7) with rfl | rfl | rfl | rfl | rfl | rfl | rfl <;> rfl
end Ox
end Go.Proofs.YtfoplimdbapdfaaDoor
