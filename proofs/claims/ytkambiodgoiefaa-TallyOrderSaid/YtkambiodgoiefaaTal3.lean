/-
  tally's contracts: Put, Load.
-/
import Derived.Test.YtkambiodgoiefaaTal2
import Derived.Laws.Shifts
import Derived.Laws.Bits64
namespace Go.Proofs.Ytkambiodgoiefaa
open Go.RowKit
namespace Tal
open Oct
theorem and_low (a : Nat) (ha : a < 18446744073709551616) : bits .and .u64 (a : Int) 4294967295 = ((a % 4294967296 : Nat) : Int) := by
  have e : a &&& 4294967295 = a % 4294967296 := Nat.and_two_pow_sub_one_eq_mod a 32
  show IntKind.u64.wrap ((BitVec.ofInt 64 (a : Int) &&& BitVec.ofInt 64 ((4294967295 : Nat) : Int)).toNat : Int) = _
  rw [BitVec.toNat_and, ofInt_u64 a (by omega), ofInt_u64 4294967295 (by omega), e]
  show (((a % 4294967296 : Nat) : Int) % 18446744073709551616) = _
  omega
set_option maxHeartbeats 400000 in
set_option maxRecDepth 100000 in
theorem put_t (w : World) (b : Nat) (n : Int) (X : Nat) (h : IsT w b n) (hX : IntKind.u64.wrap n = (X : Int)) (hx1 : X < 18446744073709551616) :
    Calls Try.prog 11 #[.pointer (some ⟨b, 0, none⟩)] w fun e w' => e = .returned (.string ⟨(be 4 ((X : Int) / 4294967296) ++ be 4 ((X % 4294967296 : Nat) : Int)).toArray⟩) ∧ Keep (fun _ => False) w w' := by
  have hc1 : w.cell? ⟨b, 1, none⟩ = some (.bool true) := by rw [cell_of h.blk]; rfl
  have hl := and_low X hx1
  have hw : wrap64 ((X % 4294967296 : Nat) : Int) = ((X % 4294967296 : Nat) : Int) := by unfold wrap64; omega
  have H : Hid _ := h
  clear h
  go_enter Try.func11, Try.ntmps11
  go_wp2_with (first | (go_at_call 16; go_in) | (go_at_call 18; refine (load_t _ b n H.out).mono ?_; rintro e w' ⟨rfl, rfl⟩) | (go_at_call 19; refine (new_any _).mono ?_; rintro e w1 ⟨rfl, h1, k1⟩; have H1 : Hid _ := h1; have K1 : Hid _ := k1; clear h1 k1) | (go_at_call 20; first | (refine (num_ok4 _ _ _ _ sv2 H2.out (by omega) (by omega) (by simp [be])).mono ?_; rintro e w3 ⟨rfl, sv3, h3, k3⟩; have H3 : Hid _ := h3; have K3 : Hid _ := k3; clear h3 k3) | (refine (num_ok4 _ _ [] _ _ H1.out (by omega) (by omega) (by decide)).mono ?_; rintro e w2 ⟨rfl, sv2, h2, k2⟩; have H2 : Hid _ := h2; have K2 : Hid _ := k2; clear h2 k2)) | (go_at_call 21; refine (done_any _ _ _ 0 sv3 H3.out).mono ?_; rw [if_pos rfl]; rintro e w4 ⟨rfl, k4⟩; have K4 : Hid _ := k4; clear k4))
  go_ret
  refine ⟨rfl, (K1.out.trans' (After.trans K2.out K3.out).1 (T := fun _ => False) (fun _ _ h => h) (fun y hy e => ?_)).trans K4.out⟩
  rcases e with e | e
  · omega
  · simp [Value.ownBlock] at e
end Tal
end Go.Proofs.Ytkambiodgoiefaa
