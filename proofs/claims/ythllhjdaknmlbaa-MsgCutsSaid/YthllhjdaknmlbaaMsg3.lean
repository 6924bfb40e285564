/-
  msg.Same, petrelref09.Same; petrelref01.Ids.
-/
import Derived.Test.YthllhjdaknmlbaaMsg2
import Derived.Test.YthllhjdaknmlbaaGId
set_option linter.unusedVariables false
set_option linter.unusedSimpArgs false
namespace Go.Proofs.Ythllhjdaknmlbaa
open Go.RowKit
namespace Ms
open Oct Ids

/-- A message, as it is told. -/
structure M where
  K : Int
  a : Option Addr
  n : Nat
  c : Nat
  B : ByteArray
  ids : List (List UInt8)
def M.val (m : M) : Value := .agg #[.int .i64 m.K, .slice m.a m.n m.c, .string m.B]
def M.at (m : M) (w : World) : Prop := At w m.a m.n m.ids
/-- What 'Same' answers. -/
def M.same (m n : M) : Bool := m.K == n.K && (m.B.toList == n.B.toList && decide (m.ids = n.ids))

set_option maxRecDepth 100000 in
theorem rsame_m (w : World) (m n : M) (hm : m.at w) (hn : n.at w) :
    Calls Try.prog 7 #[m.val, n.val] w fun e w' => e = .returned (.bool (m.same n)) ∧ Keep (fun _ => False) w w' := by
  obtain ⟨K, a, k, c, B, l⟩ := m
  obtain ⟨K2, a2, k2, c2, B2, l2⟩ := n
  unfold M.at at hm hn
  unfold M.val M.same
  simp only at hm hn ⊢
  have H1 : Hid _ := hm
  have H2 : Hid _ := hn
  clear hm hn
  by_cases hk : K = K2
  · by_cases hb : B.toList = B2.toList
    · rw [show (K == K2) = true from by simpa using hk, show (B.toList == B2.toList) = true from by simpa using hb, Bool.true_and, Bool.true_and]
      subst hk
      go_enter Try.func7, Try.ntmps7
      go_wp2_with (first | (go_at_call 15; refine (same_any _ _ _ _ _ _ _ l l2 ((H1.out.calm ((Keep.refl _ _).alloc _)).calm ((Keep.refl _ _).alloc _)) ((H2.out.calm ((Keep.refl _ _).alloc _)).calm ((Keep.refl _ _).alloc _))).mono ?_; rintro e w1 ⟨rfl, k1⟩; have K1 : Hid _ := k1; clear k1))
      go_ret
      exact ⟨rfl, (((Keep.refl _ _).alloc _).alloc _).trans K1.out⟩
    · rw [show (B.toList == B2.toList) = false from by simpa using hb]
      subst hk
      go_enter Try.func7, Try.ntmps7
      go_wp2
      go_ret
      exact ⟨by simp, (((Keep.refl _ _).alloc _).alloc _)⟩
  · rw [show (K == K2) = false from by simpa using hk]
    have e : (K == K2) = false := by simpa using hk
    clear hk
    go_enter Try.func7, Try.ntmps7
    go_wp2
    go_ret
    exact ⟨rfl, (((Keep.refl _ _).alloc _).alloc _)⟩
end Ms
end Go.Proofs.Ythllhjdaknmlbaa
