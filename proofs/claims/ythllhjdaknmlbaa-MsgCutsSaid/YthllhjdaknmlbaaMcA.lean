/-
  petrellaw09's awake, without the document's Of; messages compared.
-/
import Derived.Test.YthllhjdaknmlbaaMc5
import Derived.Test.YthllhjdaknmlbaaMsg7
set_option linter.unusedVariables false
set_option linter.unusedSimpArgs false
namespace Go.Proofs.Ythllhjdaknmlbaa
open Go.RowKit
namespace Mc
open Oct Ids
open Ms hiding M
open Ref (endv)
def S4 : ByteArray := ⟨#[8, 0, 1, 120]⟩
set_option maxRecDepth 100000 in
theorem awake9 (w : World) : Calls Try.prog 4 #[] w fun e w' => e = .returned (.bool true) ∧ Keep (fun _ => False) w w' := by
  have Hp : Hid (∀ w, _) := fun w => put_ok w 2 none 0 0 ByteArray.empty [] ⟨rfl, by simp, Nat.zero_le _, .inl rfl⟩ (by decide +kernel)
  have e1 : (⟨(enc 2 0 ByteArray.empty []).toArray⟩ : ByteArray) = ⟨#[2, 0]⟩ := by decide +kernel
  rw [e1] at Hp
  have Ho : Hid (∀ w, _) := fun w => of_body_ok w S4 (by decide) 8 1 4 ⟨#[120]⟩ 0 (by decide +kernel) (by decide +kernel) (by decide +kernel) (by decide +kernel) (by decide +kernel)
  clear e1
  go_enter Try.func4, Try.ntmps4
  go_wp2_with (first | (go_at_call 9; refine (Hp.out _).mono ?_; rintro e w1 ⟨rfl, k1⟩; have K1 : Hid _ := k1; clear k1) | (go_at_call 10; refine (Ho.out _).mono ?_; rintro e w2 ⟨rfl, k1⟩; have K2 : Hid _ := k1; clear k1))
  go_ret
  exact ⟨rfl, (K1.out.trans K2.out).alloc _⟩
theorem rsame_v (w : World) (K K2 : Int) (a a2 : Option Addr) (n n2 c c2 : Nat) (B B2 : ByteArray) (l l2 : List (List UInt8)) (v : Bool) (h1 : At w a n l) (h2 : At w a2 n2 l2) (hv : Ms.M.same ⟨K, a, n, c, B, l⟩ ⟨K2, a2, n2, c2, B2, l2⟩ = v) :
    Calls Try.prog 7 #[.agg #[.int .i64 K, .slice a n c, .string B], .agg #[.int .i64 K2, .slice a2 n2 c2, .string B2]] w fun e w' => e = .returned (.bool v) ∧ Keep (fun _ => False) w w' := by
  have := rsame_m w ⟨K, a, n, c, B, l⟩ ⟨K2, a2, n2, c2, B2, l2⟩ h1 h2
  rwa [hv] at this
theorem same_true (K : Int) (a a2 : Option Addr) (n n2 c c2 : Nat) (B : ByteArray) (l : List (List UInt8)) : Ms.M.same ⟨K, a, n, c, B, l⟩ ⟨K, a2, n2, c2, B, l⟩ = true := by simp [Ms.M.same]
/-- Messages that are there to be read. -/
def Rdy (K : Int) (w : World) (v : Value) (L : List G) : Prop := (∃ a c, v = .slice a L.length c ∧ St.At 3 (encG K) w a L.length L) ∧ ∀ y ∈ L, At w y.a y.n y.u
theorem rdy_of {K : Int} {w0 w : World} {v : Value} {L : List G} (h : Mem.M (fun _ => False) w0 w (it2 K v L)) : Rdy K w v L := by
  refine ⟨(show St.Own _ _ _ w v L from h.get 0 rfl).any, fun y hy => ?_⟩
  obtain ⟨i, hi⟩ := List.getElem?_of_mem hy
  have := it2_at (K := K) (v := v) (X := []) hi
  rw [List.append_nil] at this
  exact idG_at h this
theorem Rdy.calm {K : Int} {w w' : World} {v : Value} {L : List G} (h : Rdy K w v L) (k : Keep (fun _ => False) w w') : Rdy K w' v L := by
  obtain ⟨⟨a, c, rfl, h1⟩, h2⟩ := h
  exact ⟨⟨a, c, rfl, h1.calm k⟩, fun y hy => (h2 y hy).calm k⟩
end Mc
end Go.Proofs.Ythllhjdaknmlbaa
