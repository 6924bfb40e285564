/-
  Headers, there and back: plain law.
-/
import Derived.Test.YthdjbpimjbkajaaDoorHd8
import Derived.Test.YthdjbpimjbkajaaDoorGHb
import Derived.Test.YthdjbpimjbkajaaDoorSeg
set_option linter.unusedVariables false
set_option linter.unusedSimpArgs false
namespace Go.Proofs.YthdjbpimjbkajaaDoor
open Go.RowKit
namespace Hd
open Oct Ids OctRd Gn Seg
open Ref (endv)
open Tp (tk)

theorem toLB (B : ByteArray) : (⟨B.data.toList.toArray⟩ : ByteArray) = B := by apply ByteArray.ext; simp
theorem dr0 (s : ByteArray) : dr s 0 = s.data.toList := rfl
/-- What was put is read as it was. -/
theorem ofh_put {n : Nat} {l : List (List UInt8)} {G : Int} {T : ByteArray} {A Q Z : Int} {m : List UInt8} (hl : l.length = n) (h32 : ∀ x ∈ l, x.length = 32) (hm : m.length = 32) (hc : ck n l G T A Q Z = 0) (t : ByteArray) (ht : (⟨(hb n l G T A Q Z m).toArray⟩ : ByteArray) = t) :
    ofh t = ⟨0, l, G, T, A, Q, Z, m⟩ ∧ t.size ≤ 256 := by
  obtain ⟨hn4, _, hG, _, htk, hA, hQ, hZ⟩ := ck_ok hc
  have hT12 := tk_len htk
  have hts : t.size = 45 + 32 * n + T.size := by rw [← ht, Byt.arr_size, hb_len n l G T A Q Z m hl h32 hm]
  have hs : t.size ≤ 256 := by omega
  refine ⟨?_, hs⟩
  subst hl
  obtain ⟨g, rfl⟩ : ∃ g : Nat, G = g := ⟨G.toNat, by omega⟩
  obtain ⟨a, rfl⟩ : ∃ a : Nat, A = a := ⟨A.toNat, by omega⟩
  obtain ⟨q, rfl⟩ : ∃ q : Nat, Q = q := ⟨Q.toNat, by omega⟩
  obtain ⟨z, rfl⟩ : ∃ z : Nat, Z = z := ⟨Z.toNat, by omega⟩
  have h : dr t 0 = be 1 (l.length : Int) ++ (l.flatten ++ (be 4 (g : Int) ++ (be 1 (T.size : Int) ++ (T.data.toList ++ (be 1 (a : Int) ++ (be 4 (q : Int) ++ (be 2 (z : Int) ++ (m ++ [])))))))) := by
    rw [← ht, dr0]
    unfold hb
    simp only [List.append_assoc, List.append_nil]
  obtain ⟨a1, a2, a3⟩ := num_seg (k := 1) h (by decide) (by decide) (by omega) (by simp; omega) (Nat.zero_le _)
  obtain ⟨b1, b2, b3⟩ := ids_seg a3 l _ h32 a2 l.length (Nat.le_refl _)
  rw [List.drop_length, List.flatten_nil, List.nil_append] at b2
  rw [List.take_length] at b1
  obtain ⟨c1, c2, c3⟩ := num_seg (k := 4) b2 (by decide) (by decide) (by omega) (by simp; omega) b3
  obtain ⟨d1, d2, d3⟩ := num_seg (k := 1) c2 (by decide) (by decide) (by omega) (by simp; omega) c3
  obtain ⟨e1, e2, e3⟩ := raw_seg d2 (T.size : Int) (by rw [len_s]) d3
  obtain ⟨f1, f2, f3⟩ := num_seg (k := 1) e2 (by decide) (by decide) (by omega) (by simp; omega) e3
  obtain ⟨g1, g2, g3⟩ := num_seg (k := 4) f2 (by decide) (by decide) (by omega) (by simp; omega) f3
  obtain ⟨i1, i2, i3⟩ := num_seg (k := 2) g2 (by decide) (by decide) (by omega) (by simp; omega) g3
  obtain ⟨j1, j2, j3⟩ := raw_seg i2 (32 : Int) (by rw [hm]; rfl) i3
  rw [Int.toNat_natCast] at a1 c1 d1 f1 g1 i1
  rw [toLB] at e1
  rw [← ofh_eq hs a1 b1 c1 d1 e1 f1 g1 i1 j1]
  have he : endv t (0 + 1 + 32 * l.length + 4 + 1 + T.data.toList.length + 1 + 4 + 2 + m.length) 0 = 0 := by
    unfold endv
    rw [if_pos rfl, if_pos]
    rw [hts, hm, len_s]
    omega
  have hp : Ids.pad m = m := Ids.pad_full m hm
  simp only [he, hp, hc]
  rfl
/-- What was read is put as it was. -/
theorem ofh_back (s : ByteArray) (h : (ofh s).e = 0) : ck (ofh s).l.length (ofh s).l (ofh s).G (ofh s).T (ofh s).A (ofh s).Q (ofh s).Z = 0 ∧ (⟨(hb (ofh s).l.length (ofh s).l (ofh s).G (ofh s).T (ofh s).A (ofh s).Q (ofh s).Z (ofh s).m).toArray⟩ : ByteArray) = s ∧ (∀ x ∈ (ofh s).l, x.length = 32) ∧ (ofh s).m.length = 32 := by
  have fn : ∀ l : List UInt8, dr s 0 = l → (⟨l.toArray⟩ : ByteArray) = s := fun l hl => by
    rw [← hl, dr0, toLB]
  by_cases hs : 256 < s.size
  · rw [show ofh s = hoz 3 from if_pos hs] at h
    exact absurd h (by decide)
  have hs' : s.size ≤ 256 := by omega
  obtain ⟨⟨n, a0, b0⟩, hn⟩ : ∃ p, rnum s 0 0 1 = p := ⟨_, rfl⟩
  obtain ⟨⟨l, a1, b1⟩, hS⟩ : ∃ p, rdIds s a0 b0 n = p := ⟨_, rfl⟩
  obtain ⟨⟨G, a2, b2⟩, hG⟩ : ∃ p, rnum s a1 b1 4 = p := ⟨_, rfl⟩
  obtain ⟨⟨nT, aT, bT⟩, ht⟩ : ∃ p, rnum s a2 b2 1 = p := ⟨_, rfl⟩
  obtain ⟨⟨T, a3, b3⟩, hT⟩ : ∃ p, rraw s aT bT nT = p := ⟨_, rfl⟩
  obtain ⟨⟨A, a4, b4⟩, hA⟩ : ∃ p, rnum s a3 b3 1 = p := ⟨_, rfl⟩
  obtain ⟨⟨Q, a5, b5⟩, hQ⟩ : ∃ p, rnum s a4 b4 4 = p := ⟨_, rfl⟩
  obtain ⟨⟨Z, a6, b6⟩, hZ⟩ : ∃ p, rnum s a5 b5 2 = p := ⟨_, rfl⟩
  obtain ⟨⟨x, a7, b7⟩, hx⟩ : ∃ p, rraw s a6 b6 32 = p := ⟨_, rfl⟩
  rw [← ofh_eq hs' hn hS hG ht hT hA hQ hZ hx] at h ⊢
  have hll : l.length = n := by have := rdIds_len s a0 b0 n; rw [hS] at this; exact this
  have h32 : ∀ y ∈ l, y.length = 32 := by have := ids_each s a0 b0 n; rw [hS] at this; exact this
  unfold fin at h ⊢
  by_cases he : endv s a7 b7 ≠ 0
  · rw [if_pos he] at h
    exact absurd h he
  rw [if_neg he] at h ⊢
  by_cases hk : ck n l G T A Q Z ≠ 0
  · rw [if_pos hk] at h
    exact absurd h hk
  rw [if_neg hk] at h ⊢
  simp only [ne_eq, Classical.not_not] at he hk
  obtain ⟨x1, x2⟩ := end_ok he
  subst x2
  have z6 : b6 = 0 := Classical.not_not.1 fun e => e ((raw_stuck hx e).2.2 ▸ rfl)
  subst z6
  have z5 : b5 = 0 := Classical.not_not.1 fun e => e ((num_stuck hZ e).2.2 ▸ rfl)
  subst z5
  have z4 : b4 = 0 := Classical.not_not.1 fun e => e ((num_stuck hQ e).2.2 ▸ rfl)
  subst z4
  have z3 : b3 = 0 := Classical.not_not.1 fun e => e ((num_stuck hA e).2.2 ▸ rfl)
  subst z3
  have zT : bT = 0 := Classical.not_not.1 fun e => e ((raw_stuck hT e).2.2 ▸ rfl)
  subst zT
  have z2 : b2 = 0 := Classical.not_not.1 fun e => e ((num_stuck ht e).2.2 ▸ rfl)
  subst z2
  have z1 : b1 = 0 := Classical.not_not.1 fun e => e ((num_stuck hG e).2.2 ▸ rfl)
  subst z1
  have z0 : b0 = 0 := Classical.not_not.1 fun e => e (by have := ids_stuck s a0 b0 e n; rw [hS] at this; exact this.symm)
  subst z0
  obtain ⟨e1, l1⟩ := num_ok (k := 1) (m := 1) (by decide) (by decide) hn (Nat.zero_le _)
  have hio := ids_ok s a0 l1 n (by rw [hS])
  rw [hS] at hio
  obtain ⟨e2, l2⟩ := hio
  obtain ⟨e3, l3⟩ := num_ok (k := 4) (m := 4) (by decide) (by decide) hG l2
  obtain ⟨e4, l4⟩ := num_ok (k := 1) (m := 1) (by decide) (by decide) ht l3
  obtain ⟨e5, l5, s5⟩ := raw_ok hT l4
  obtain ⟨e6, l6⟩ := num_ok (k := 1) (m := 1) (by decide) (by decide) hA l5
  obtain ⟨e7, l7⟩ := num_ok (k := 4) (m := 4) (by decide) (by decide) hQ l6
  obtain ⟨e8, l8⟩ := num_ok (k := 2) (m := 2) (by decide) (by decide) hZ l7
  obtain ⟨e9, l9, s9⟩ := raw_ok (k := 32) hx l8
  rw [x1, dr_end, List.append_nil] at e9
  have hp : Ids.pad x.data.toList = x.data.toList := Ids.pad_full _ (by rw [len_s]; exact s9)
  refine ⟨by rw [hll]; exact hk, fn _ ?_, h32, by rw [hp, len_s]; exact s9⟩
  unfold hb
  simp only [hll, hp]
  rw [e1, e2, e3, e4, e5, e6, e7, e8, e9, s5]
  simp only [List.append_assoc]
theorem ofh_bad (s : ByteArray) (h : (ofh s).e ≠ 0) : ofh s = hoz (ofh s).e := by
  by_cases hs : 256 < s.size
  · rw [show ofh s = hoz 3 from if_pos hs]; rfl
  obtain ⟨o, ho⟩ : ∃ o, ofh s = o := ⟨_, rfl⟩
  rw [ho] at h ⊢
  unfold ofh at ho
  rw [if_neg hs] at ho
  simp only at ho
  unfold fin at ho
  repeat' split at ho
  all_goals
    subst ho
    first
      | rfl
      | exact absurd rfl h
theorem ofh_m (s : ByteArray) : (ofh s).m.length = 32 := by
  by_cases h : (ofh s).e = 0
  · exact (ofh_back s h).2.2.2
  · rw [ofh_bad s h]; rfl
theorem ofh_T (s : ByteArray) : (ofh s).T.size ≤ maxLen := by
  by_cases h : (ofh s).e = 0
  · have h1 := (ofh_back s h).1
    have := tk_len (ck_ok h1).2.2.2.2.1
    unfold maxLen; omega
  · rw [ofh_bad s h]; exact Nat.zero_le _
end Hd
end Go.Proofs.YthdjbpimjbkajaaDoor
