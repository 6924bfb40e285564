/-
  Plain law: nodes and ids as bytes, and out of bytes.
-/
import Derived.Test.YtgpimeobkacniaaSqW
import Derived.Test.YtgpimeobkacniaaSeg
set_option linter.unusedVariables false
set_option linter.unusedSimpArgs false
namespace Go.Proofs.Ytgpimeobkacniaa
open Go.RowKit
namespace Sq
open Oct Ids Seg
open OctRd (be_len)
def fit (l : Wd) : Wd := if l.length = 32 then l else Zi
theorem fit_len (l : Wd) : (fit l).length = 32 := by
  unfold fit
  split
  · assumption
  · rfl
theorem fit_eq {l : Wd} (h : l.length = 32) : fit l = l := if_pos h
/-- A node's bytes. -/
def nodeB (d : Dn) : List UInt8 := d.u ++ be 4 d.x.h ++ d.x.r ++ be 1 d.x.v.size ++ d.x.v.data.toList
def putB (X : List Dn) (G : List Wd) : List UInt8 := be 4 X.length ++ X.flatMap nodeB ++ be 4 G.length ++ G.flatten
/-- A node read. -/
def rd1 (s : ByteArray) (a : Nat) (b : Int) : Dn × Nat × Int :=
  let p1 := rraw s a b 32
  let p2 := rnum s p1.2.1 p1.2.2 4
  let p3 := rraw s p2.2.1 p2.2.2 32
  let p4 := rnum s p3.2.1 p3.2.2 1
  let p5 := rraw s p4.2.1 p4.2.2 p4.1
  (⟨fit (pad p1.1.data.toList), fit_len _, ⟨p2.1, fit (pad p3.1.data.toList), fit_len _, p5.1⟩⟩, p5.2.1, p5.2.2)
def rdL (s : ByteArray) (a : Nat) (b : Int) : Nat → List Dn × Nat × Int
  | 0 => ([], a, b)
  | k + 1 => ((rdL s a b k).1 ++ [(rd1 s (rdL s a b k).2.1 (rdL s a b k).2.2).1], (rd1 s (rdL s a b k).2.1 (rdL s a b k).2.2).2)
theorem rdL_len (s : ByteArray) (a : Nat) (b : Int) : ∀ k, (rdL s a b k).1.length = k
  | 0 => rfl
  | k + 1 => by simp [rdL, rdL_len s a b k]
theorem pad_of {l : List UInt8} (h : l.length = 32) : pad l = l := by
  unfold pad
  simp [h]
theorem rd1_ok {s : ByteArray} {a : Nat} {d : Dn} {a' : Nat} (h : rd1 s a 0 = (d, a', 0)) (hle : a ≤ s.size) : dr s a = nodeB d ++ dr s a' ∧ a' ≤ s.size ∧ a + 69 ≤ a' := by
  unfold rd1 at h
  obtain ⟨x1, a1, b1, h1⟩ : ∃ x a' b', rraw s a 0 32 = (x, a', b') := ⟨_, _, _, rfl⟩
  obtain ⟨n2, a2, b2, h2⟩ : ∃ x a' b', rnum s a1 b1 4 = (x, a', b') := ⟨_, _, _, rfl⟩
  obtain ⟨x3, a3, b3, h3⟩ : ∃ x a' b', rraw s a2 b2 32 = (x, a', b') := ⟨_, _, _, rfl⟩
  obtain ⟨n4, a4, b4, h4⟩ : ∃ x a' b', rnum s a3 b3 1 = (x, a', b') := ⟨_, _, _, rfl⟩
  obtain ⟨x5, a5, b5, h5⟩ : ∃ x a' b', rraw s a4 b4 n4 = (x, a', b') := ⟨_, _, _, rfl⟩
  simp only [h1, h2, h3, h4, h5, Prod.mk.injEq] at h
  obtain ⟨rfl, rfl, rfl⟩ := h
  have e4 : b4 = 0 := Classical.byContradiction fun hb => hb (raw_stuck h5 hb).2.2.symm
  subst e4
  have e3 : b3 = 0 := Classical.byContradiction fun hb => hb (num_stuck h4 hb).2.2.symm
  subst e3
  have e2 : b2 = 0 := Classical.byContradiction fun hb => hb (raw_stuck h3 hb).2.2.symm
  subst e2
  have e1 : b1 = 0 := Classical.byContradiction fun hb => hb (num_stuck h2 hb).2.2.symm
  subst e1
  obtain ⟨d1, l1, z1⟩ := raw_ok (k := 32) h1 hle
  obtain ⟨d2, l2⟩ := num_ok (k := 4) (m := 4) (by decide) (by decide) h2 l1
  obtain ⟨d3, l3, z3⟩ := raw_ok (k := 32) h3 l2
  obtain ⟨d4, l4⟩ := num_ok (k := 1) (m := 1) (by decide) (by decide) h4 l3
  obtain ⟨d5, l5, z5⟩ := raw_ok (k := n4) h5 l4
  have s1 : x1.data.toList.length = 32 := by rw [len_s]; exact z1
  have s3 : x3.data.toList.length = 32 := by rw [len_s]; exact z3
  refine ⟨?_, l5, ?_⟩
  · rw [d1, d2, d3, d4, d5]
    unfold nodeB
    simp only [pad_of s1, pad_of s3, fit_eq s1, fit_eq s3, z5, List.append_assoc]
  · have e1 := congrArg List.length d1
    have e2 := congrArg List.length d2
    have e3 := congrArg List.length d3
    have e4 := congrArg List.length d4
    have e5 := congrArg List.length d5
    simp only [List.length_append, dr_len, be_len, s1, s3] at e1 e2 e3 e4 e5
    omega
theorem rd1_stuck {s : ByteArray} {a : Nat} {b : Int} (hb : b ≠ 0) : (rd1 s a b).2.2 = b := by
  unfold rd1
  obtain ⟨x1, a1, b1, h1⟩ : ∃ x a' b', rraw s a b 32 = (x, a', b') := ⟨_, _, _, rfl⟩
  obtain ⟨n2, a2, b2, h2⟩ : ∃ x a' b', rnum s a1 b1 4 = (x, a', b') := ⟨_, _, _, rfl⟩
  obtain ⟨x3, a3, b3, h3⟩ : ∃ x a' b', rraw s a2 b2 32 = (x, a', b') := ⟨_, _, _, rfl⟩
  obtain ⟨n4, a4, b4, h4⟩ : ∃ x a' b', rnum s a3 b3 1 = (x, a', b') := ⟨_, _, _, rfl⟩
  obtain ⟨x5, a5, b5, h5⟩ : ∃ x a' b', rraw s a4 b4 n4 = (x, a', b') := ⟨_, _, _, rfl⟩
  simp only [h1, h2, h3, h4, h5]
  obtain ⟨_, _, rfl⟩ := raw_stuck h1 hb
  obtain ⟨_, _, rfl⟩ := num_stuck h2 hb
  obtain ⟨_, _, rfl⟩ := raw_stuck h3 hb
  obtain ⟨_, _, rfl⟩ := num_stuck h4 hb
  obtain ⟨_, _, rfl⟩ := raw_stuck h5 hb
  rfl
theorem rdL_ok (s : ByteArray) (a : Nat) (hle : a ≤ s.size) : ∀ k, (rdL s a 0 k).2.2 = 0 → dr s a = (rdL s a 0 k).1.flatMap nodeB ++ dr s (rdL s a 0 k).2.1 ∧ (rdL s a 0 k).2.1 ≤ s.size ∧ a + 69 * k ≤ (rdL s a 0 k).2.1
  | 0, _ => ⟨rfl, hle, Nat.le_refl _⟩
  | k + 1, h => by
    obtain ⟨L, a1, b1, hL⟩ : ∃ L a' b', rdL s a 0 k = (L, a', b') := ⟨_, _, _, rfl⟩
    obtain ⟨d, a2, b2, hd⟩ : ∃ L a' b', rd1 s a1 b1 = (L, a', b') := ⟨_, _, _, rfl⟩
    have e : rdL s a 0 (k + 1) = (L ++ [d], a2, b2) := by simp only [rdL, hL, hd]
    rw [e] at h ⊢
    simp only at h
    subst h
    have e1 : b1 = 0 := Classical.byContradiction fun hb => by
      have := rd1_stuck (s := s) (a := a1) hb
      rw [hd] at this
      exact hb this.symm
    subst e1
    have ih := rdL_ok s a hle k (by rw [hL])
    rw [hL] at ih
    obtain ⟨i1, i2, i3⟩ := ih
    obtain ⟨j1, j2, j3⟩ := rd1_ok hd i2
    refine ⟨?_, j2, by simp only at i3 ⊢; omega⟩
    simp only at i1 ⊢
    rw [i1, j1]
    simp
/-- Where the reading of so many nodes ends. -/
structure Till (s : ByteArray) (a : Nat) (n k : Nat) : Prop where
  le : k ≤ n
  good : ∀ j, j < k → (rdL s a 0 j).2.2 = 0
  stop : k = n ∨ (rdL s a 0 k).2.2 ≠ 0
theorem Till.uniq {s : ByteArray} {a n k k' : Nat} (h : Till s a n k) (h' : Till s a n k') : k = k' := by
  rcases Nat.lt_trichotomy k k' with hlt | he | hlt
  · rcases h.stop with e | e
    · have := h'.le; omega
    · exact absurd (h'.good k hlt) e
  · exact he
  · rcases h'.stop with e | e
    · have := h.le; omega
    · exact absurd (h.good k' hlt) e
end Sq
end Go.Proofs.Ytgpimeobkacniaa
