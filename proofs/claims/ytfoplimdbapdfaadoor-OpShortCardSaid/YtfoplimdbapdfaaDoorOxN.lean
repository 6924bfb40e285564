/-
  petrelref07.Of, whatever comes in.
-/
import Derived.Test.YtfoplimdbapdfaaDoorOxJ
import Derived.Test.YtfoplimdbapdfaaDoorOxK
set_option linter.unusedVariables false
set_option linter.unusedSimpArgs false
namespace Go.Proofs.YtfoplimdbapdfaaDoor
open Go.RowKit
namespace Ox
open Oct Ids
open Ref (endv)

theorem rof_any_op (w : World) (s : ByteArray) (hs' : s.size ≤ maxLen) : Calls Tryd.prog 13 #[.string s] w (OfPost (ofo s) w) := by
  obtain ⟨⟨n, a0, b0⟩, hn⟩ : ∃ p, rnum s 0 0 1 = p := ⟨_, rfl⟩
  by_cases hb : b0 = 0
  case neg =>
    have e : ofo s = oz b0 := by unfold ofo; simp only [hn]; rw [if_pos hb]
    rw [e]
    exact rof_bad w s hs' n a0 b0 hn hb
  subst hb
  by_cases hK : (n : Int) < 1 ∨ 7 < (n : Int)
  · have e : ofo s = oz 10 := by unfold ofo; simp only [hn]; rw [if_neg (by simp), if_pos hK]
    rw [e]
    exact rof_none w s hs' n a0 hn hK
  have hK2 : 1 ≤ (n : Int) ∧ (n : Int) ≤ 7 := by omega
  obtain ⟨⟨r, a1, b1⟩, hR⟩ : ∃ p, rdR s a0 0 (iR n) = p := ⟨_, rfl⟩
  obtain ⟨⟨Y, a2, b2⟩, hY⟩ : ∃ p, rdT s a1 b1 (iK n) = p := ⟨_, rfl⟩
  obtain ⟨⟨V, a3, b3⟩, hV⟩ : ∃ p, rdT s a2 b2 (iV n) = p := ⟨_, rfl⟩
  obtain ⟨⟨m, a4, b4⟩, hN⟩ : ∃ p, rdN s a3 b3 (iN n) = p := ⟨_, rfl⟩
  obtain ⟨⟨l, a5, b5⟩, hS⟩ : ∃ p, rdS s a4 b4 (iS n) = p := ⟨_, rfl⟩
  have hO := ofo_eq hn hK2 hR hY hV hN hS
  have zR : iR n = false → Z32 = r ∧ a0 = a1 ∧ (0 : Int) = b1 := fun e => by rw [e] at hR; have h' : (Z32, a0, (0 : Int)) = (r, a1, b1) := hR; simpa only [Prod.mk.injEq] using h'
  have zY : iK n = false → ByteArray.empty = Y ∧ a1 = a2 ∧ b1 = b2 := fun e => by rw [e] at hY; have h' : ((ByteArray.empty : ByteArray), a1, b1) = (Y, a2, b2) := hY; simpa only [Prod.mk.injEq] using h'
  have zV : iV n = false → ByteArray.empty = V ∧ a2 = a3 ∧ b2 = b3 := fun e => by rw [e] at hV; have h' : ((ByteArray.empty : ByteArray), a2, b2) = (V, a3, b3) := hV; simpa only [Prod.mk.injEq] using h'
  have zN : iN n = false → 0 = m ∧ a3 = a4 ∧ b3 = b4 := fun e => by rw [e] at hN; have h' : ((0 : Nat), a3, b3) = (m, a4, b4) := hN; simpa only [Prod.mk.injEq] using h'
  have zS : iS n = false → [] = l ∧ a4 = a5 ∧ b4 = b5 := fun e => by rw [e] at hS; have h' : (([] : List (List UInt8)), a4, b4) = (l, a5, b5) := hS; simpa only [Prod.mk.injEq] using h'
  rcases (by omega : (n : Int) = 1 ∨ (n : Int) = 2 ∨ (n : Int) = 3 ∨ (n : Int) = 4 ∨ (n : Int) = 5 ∨ (n : Int) = 6 ∨ (n : Int) = 7) with h | h | h | h | h | h | h
  all_goals rw [h] at hR hY hV hN hS hO zR zY zV zN zS
  · obtain ⟨rfl, rfl, rfl⟩ := zR rfl
    obtain ⟨rfl, rfl, rfl⟩ := zY rfl
    obtain ⟨rfl, rfl, rfl⟩ := zV rfl
    obtain ⟨rfl, rfl, rfl⟩ := zS rfl
    exact rof_1 w s hs' n _ hn h m _ _ hN _ hO
  · obtain ⟨rfl, rfl, rfl⟩ := zR rfl
    obtain ⟨rfl, rfl, rfl⟩ := zY rfl
    obtain ⟨rfl, rfl, rfl⟩ := zN rfl
    obtain ⟨rfl, rfl, rfl⟩ := zS rfl
    exact rof_2 w s hs' n _ hn h V _ _ hV _ hO
  · obtain ⟨rfl, rfl, rfl⟩ := zR rfl
    obtain ⟨rfl, rfl, rfl⟩ := zY rfl
    obtain ⟨rfl, rfl, rfl⟩ := zN rfl
    exact rof_3 w s hs' n _ hn h V _ _ hV l _ _ hS _ hO
  · obtain ⟨rfl, rfl, rfl⟩ := zR rfl
    obtain ⟨rfl, rfl, rfl⟩ := zS rfl
    exact rof_4 w s hs' n _ hn h Y _ _ hY V _ _ hV m _ _ hN _ hO
  · obtain ⟨rfl, rfl, rfl⟩ := zR rfl
    obtain ⟨rfl, rfl, rfl⟩ := zN rfl
    exact rof_5 w s hs' n _ hn h Y _ _ hY V _ _ hV l _ _ hS _ hO
  · obtain ⟨rfl, rfl, rfl⟩ := zY rfl
    obtain ⟨rfl, rfl, rfl⟩ := zN rfl
    obtain ⟨rfl, rfl, rfl⟩ := zS rfl
    exact rof_6 w s hs' n _ hn h r _ _ hR V _ _ hV _ hO
  · obtain ⟨rfl, rfl, rfl⟩ := zY rfl
    obtain ⟨rfl, rfl, rfl⟩ := zV rfl
    obtain ⟨rfl, rfl, rfl⟩ := zN rfl
    obtain ⟨rfl, rfl, rfl⟩ := zS rfl
    exact rof_7 w s hs' n _ hn h r _ _ hR _ hO
end Ox
end Go.Proofs.YtfoplimdbapdfaaDoor
