/-
  petrelref14.Of, whatever comes in.
-/
import Derived.Test.YtmnmemeldjbifaaEn9
import Derived.Test.YtmnmemeldjbifaaRdLaw
set_option linter.unusedVariables false
set_option linter.unusedSimpArgs false
namespace Go.Proofs.Ytmnmemeldjbifaa
open Go.RowKit
namespace En
open Oct Ids Ms
open Ref (endv)

theorem ofe_eq {s : ByteArray} {n a1 a2 a3 a4 : Nat} {b2 b3 b4 : Int} {T B : ByteArray} {c : List UInt8} (hn : rnum s 0 0 1 = (n, a1, 0)) (hK : 1 ≤ (n : Int) ∧ (n : Int) ≤ 7) (hT : rdT s a1 0 (pT n) = (T, a2, b2)) (hC : rdC s a2 b2 (pC n) = (c, a3, b3)) (hB : rdB s a3 b3 (decide (0 < pB n)) = (B, a4, b4)) :
    (if endv s a4 b4 ≠ 0 then oz (endv s a4 b4) else if ck n T B c ≠ 0 then oz (ck n T B c) else ⟨0, n, T, B, c⟩) = ofe s := by
  symm
  unfold ofe
  simp only [hn]
  rw [if_neg (by simp), if_neg (by omega)]
  simp only [hT, hC, hB]
theorem rofE_any (w : World) (s : ByteArray) (hs : s.size ≤ maxLen) : Calls Try.prog 28 #[.string s] w fun e w' => e = .returned (ev (ofe s)) ∧ Keep (fun _ => False) w w' := by
  obtain ⟨⟨n, a1, b1⟩, hn⟩ : ∃ p, rnum s 0 0 1 = p := ⟨_, rfl⟩
  by_cases hb : b1 = 0
  case neg =>
    have e : ofe s = oz b1 := by unfold ofe; simp only [hn]; rw [if_pos hb]
    rw [e]
    exact rof_bad w s hs n a1 b1 hn hb
  subst hb
  have ha1 : a1 ≤ s.size := by have := OctRd.rnum_le s 0 0 1 (Nat.zero_le _); rw [hn] at this; exact this
  by_cases hK : (n : Int) < 1 ∨ 7 < (n : Int)
  · have e : ofe s = oz 10 := by unfold ofe; simp only [hn]; rw [if_neg (by simp), if_pos hK]
    rw [e]
    exact rof_none w s hs n a1 hn hK
  have hK2 : 1 ≤ (n : Int) ∧ (n : Int) ≤ 7 := by omega
  have len : ∀ a, a ≤ s.size → ((s.extract a s.size).size : Int) = (s.size : Int) - a := fun a ha => by rw [ByteArray.size_extract, Nat.min_self]; omega
  rcases (by omega : (n : Int) = 4 ∨ ((n : Int) = 5 ∨ (n : Int) = 6) ∨ (n : Int) = 7 ∨ ((n : Int) = 1 ∨ (n : Int) = 2 ∨ (n : Int) = 3)) with h | h | h | h
  · have t1 : pT n = false := by rw [h]; rfl
    have t2 : pC n = true := by rw [h]; rfl
    have t3 : decide (0 < pB n) = false := by rw [h]; rfl
    obtain ⟨⟨x, a4, b4⟩, hx⟩ : ∃ p, rraw s a1 0 32 = p := ⟨_, rfl⟩
    have hT : rdT s a1 0 (pT n) = (ByteArray.empty, a1, 0) := by rw [t1]; rfl
    have hC : rdC s a1 0 (pC n) = (pad x.data.toList, a4, b4) := by rw [t2]; show (pad (rraw s a1 0 32).1.data.toList, _, _) = _; rw [hx]
    have hB : rdB s a4 b4 (decide (0 < pB n)) = (ByteArray.empty, a4, b4) := by rw [t3]; rfl
    have hcl := rdC_len s a1 0 (pC n)
    rw [hC] at hcl
    exact rof_C w s hs n a1 a4 b4 x hn hK2 (by unfold hsHas; exact t1) (by unfold hsHas; exact t2) (by unfold hsHas; exact t3) hx hcl _ _ rfl rfl _ (ofe_eq hn hK2 hT hC hB)
  · have t1 : pT n = true := by rcases h with h | h <;> rw [h] <;> rfl
    have t2 : pC n = false := by rcases h with h | h <;> rw [h] <;> rfl
    have t3 : decide (0 < pB n) = false := by rcases h with h | h <;> rw [h] <;> rfl
    obtain ⟨⟨n2, a0, b0⟩, hn2⟩ : ∃ p, rnum s a1 0 1 = p := ⟨_, rfl⟩
    obtain ⟨⟨T, a4, b4⟩, hr⟩ : ∃ p, rraw s a0 b0 n2 = p := ⟨_, rfl⟩
    have hT : rdT s a1 0 (pT n) = (T, a4, b4) := by rw [t1]; show rraw s (rnum s a1 0 1).2.1 (rnum s a1 0 1).2.2 (rnum s a1 0 1).1 = _; rw [hn2]; exact hr
    have hC : rdC s a4 b4 (pC n) = (Z32, a4, b4) := by rw [t2]; rfl
    have hB : rdB s a4 b4 (decide (0 < pB n)) = (ByteArray.empty, a4, b4) := by rw [t3]; rfl
    have hTl := rdT_le s a1 0 (pT n)
    rw [hT] at hTl
    exact rof_T w s hs n a1 n2 a0 a4 b0 b4 T hn hK2 (by unfold hsHas; exact t1) (by unfold hsHas; exact t2) (by unfold hsHas; exact t3) hn2 hr _ _ rfl rfl (Nat.le_trans hTl hs) _ (ofe_eq hn hK2 hT hC hB)
  · have t1 : pT n = true := by rw [h]; rfl
    have t2 : pC n = false := by rw [h]; rfl
    have t3 : decide (0 < pB n) = true := by rw [h]; rfl
    obtain ⟨⟨n2, a0, b0⟩, hn2⟩ : ∃ p, rnum s a1 0 1 = p := ⟨_, rfl⟩
    obtain ⟨⟨T, a2, b2⟩, hr⟩ : ∃ p, rraw s a0 b0 n2 = p := ⟨_, rfl⟩
    have ha0 : a0 ≤ s.size := by have := OctRd.rnum_le s a1 0 1 ha1; rw [hn2] at this; exact this
    have ha2 : a2 ≤ s.size := by have := OctRd.rraw_le s a0 b0 n2 ha0; rw [hr] at this; exact this
    have hT : rdT s a1 0 (pT n) = (T, a2, b2) := by rw [t1]; show rraw s (rnum s a1 0 1).2.1 (rnum s a1 0 1).2.2 (rnum s a1 0 1).1 = _; rw [hn2]; exact hr
    have hC : rdC s a2 b2 (pC n) = (Z32, a2, b2) := by rw [t2]; rfl
    have hTl := rdT_le s a1 0 (pT n)
    rw [hT] at hTl
    by_cases hb2 : b2 = 0
    · subst hb2
      obtain ⟨⟨B, a4, b4⟩, hb⟩ : ∃ p, rraw s a2 0 ((s.extract a2 s.size).size : Int) = p := ⟨_, rfl⟩
      have hB : rdB s a2 0 (decide (0 < pB n)) = (B, a4, b4) := by rw [t3]; show rraw s a2 0 (if (0 : Int) = 0 then (s.size : Int) - a2 else 0) = _; rw [if_pos rfl, ← len a2 ha2]; exact hb
      have hBl := rdB_le s a2 0 (decide (0 < pB n))
      rw [hB] at hBl
      exact rof_TB w s hs n a1 n2 a0 a2 a4 b0 b4 T B hn hK2 (by unfold hsHas; exact t1) (by unfold hsHas; exact t2) (by unfold hsHas; exact t3) hn2 hr _ rfl hb _ _ rfl rfl (Nat.le_trans hTl hs) (Nat.le_trans hBl hs) _ (ofe_eq hn hK2 hT hC hB)
    · have hB : rdB s a2 b2 (decide (0 < pB n)) = (ByteArray.empty, a2, b2) := by rw [t3]; show rraw s a2 b2 (if b2 = 0 then (s.size : Int) - a2 else 0) = _; unfold rraw; rw [if_pos hb2]
      have he : endv s a2 b2 = b2 := by unfold endv; rw [if_neg hb2]
      have e := ofe_eq hn hK2 hT hC hB
      rw [he, if_pos hb2] at e
      rw [← e]
      exact rof_TX w s hs n a1 n2 a0 a2 b0 b2 T hn hK2 (by unfold hsHas; exact t1) (by unfold hsHas; exact t2) (by unfold hsHas; exact t3) hn2 hr hb2
  · have t1 : pT n = false := by rcases h with h | h | h <;> rw [h] <;> rfl
    have t2 : pC n = false := by rcases h with h | h | h <;> rw [h] <;> rfl
    have t3 : decide (0 < pB n) = true := by rcases h with h | h | h <;> rw [h] <;> rfl
    obtain ⟨⟨B, a4, b4⟩, hb⟩ : ∃ p, rraw s a1 0 ((s.extract a1 s.size).size : Int) = p := ⟨_, rfl⟩
    have hT : rdT s a1 0 (pT n) = (ByteArray.empty, a1, 0) := by rw [t1]; rfl
    have hC : rdC s a1 0 (pC n) = (Z32, a1, 0) := by rw [t2]; rfl
    have hB : rdB s a1 0 (decide (0 < pB n)) = (B, a4, b4) := by rw [t3]; show rraw s a1 0 (if (0 : Int) = 0 then (s.size : Int) - a1 else 0) = _; rw [if_pos rfl, ← len a1 ha1]; exact hb
    have hBl := rdB_le s a1 0 (decide (0 < pB n))
    rw [hB] at hBl
    exact rof_B w s hs n a1 a4 b4 B hn hK2 (by unfold hsHas; exact t1) (by unfold hsHas; exact t2) (by unfold hsHas; exact t3) _ rfl hb _ _ rfl rfl (Nat.le_trans hBl hs) _ (ofe_eq hn hK2 hT hC hB)
end En
end Go.Proofs.Ytmnmemeldjbifaa
