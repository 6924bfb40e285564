/-
  What stands at every law's end: the program computes at all.
-/
import Derived.Test.YtbeiaobdapapjaaRef2
namespace Go.Proofs.Ytbeiaobdapapjaa
open Go.RowKit
namespace Law
open Oct

def S5 : ByteArray := ⟨#[1, 2, 0, 1, 97]⟩
theorem done_ok (w : World) (b : Nat) (bs : List UInt8) (sv : Value) (h : IsW w b bs 0 sv) :
    Calls Try.prog 14 #[.pointer (some ⟨b, 0, none⟩)] w fun e w' => e = .returned (.tuple #[.string ⟨bs.toArray⟩, .int .i64 0]) ∧ Keep (fun _ => False) w w' := by
  refine (done_any w b bs 0 sv h).mono ?_
  rintro e w' ⟨rfl, k⟩
  exact ⟨rfl, k⟩
theorem awake_true (w : World) : Calls Try.prog 15 #[] w fun e w' => e = .returned (.bool true) ∧ Keep (fun _ => False) w w' := by
  have r1 : Hid (rnum S5 0 0 2 = (258, 2, 0)) := by show rnum S5 0 0 2 = (258, 2, 0); decide +kernel
  have r2 : Hid (rtext S5 2 0 9 = (⟨#[97]⟩, 5, 0)) := by show rtext S5 2 0 9 = (⟨#[97]⟩, 5, 0); decide +kernel
  go_enter Try.func15, Try.ntmps15
  go_wp2_with (first | (go_at_call 8; refine (new_any _).mono ?_; rintro e w1 ⟨rfl, h1, k1⟩; have H1 : Hid _ := h1; have K1 : Hid _ := k1; clear h1 k1) | (go_at_call 10; refine (num_ok2 _ _ [] 258 _ H1.out (by decide) (by decide) (by decide)).mono ?_; rintro e w2 ⟨rfl, v2, h2, k2⟩; have H2 : Hid _ := h2; have K2 : Hid _ := k2; clear h2 k2) | (go_at_call 12; refine (text_any _ _ _ _ _ _ H2.out (by decide) (by decide)).mono ?_; rintro e w3 ⟨rfl, v3, h3, k3⟩; have H3 : Hid (IsW w3 _ [1, 2, 0, 1, 97] 0 v3) := h3; have K3 : Hid _ := k3; clear h3 k3) | (go_at_call 14; refine (done_ok _ _ _ _ H3.out).mono ?_; rintro e w4 ⟨rfl, k4⟩; have K4 : Hid _ := k4; clear k4) | (go_at_call 16; refine (open_any _ S5 (by decide)).mono ?_; rintro e w5 ⟨rfl, h5, k5⟩; have H5 : Hid _ := h5; have K5 : Hid _ := k5; clear h5 k5) | (go_at_call 17; refine (rnum_any _ _ S5 0 0 2 H5.out).mono ?_; rw [r1.out]; rintro e w6 ⟨rfl, h6, k6⟩; have H6 : Hid _ := h6; have K6 : Hid _ := k6; clear h6 k6) | (go_at_call 19; refine (rtext_any _ _ S5 2 0 9 H6.out).mono ?_; rw [r2.out]; rintro e w7 ⟨rfl, h7, k7⟩; have H7 : Hid _ := h7; have K7 : Hid _ := k7; clear h7 k7) | (go_at_call 25; refine (end_any _ _ S5 5 0 H7.out).mono ?_; rintro e w8 ⟨rfl, k8⟩; have K8 : Hid _ := k8; clear k8))
  go_ret
  refine ⟨rfl, ?_⟩
  have kk := (K1.out.trans' (K2.out.1.trans' K3.out.1 (T := fun k => k = w.heap.size) (fun k hk h => by rcases h with h | h; exact h; simp [Value.ownBlock] at h) (fun k hk h => by
    rcases h with h | h
    · exact h
    · rcases K2.out.2 k h with e | e
      · simp [Value.ownBlock] at e
      · omega)) (T := fun _ => False) (fun _ _ h => h) (fun k hk h => by omega))
  have k5 := (kk.trans K4.out).trans K5.out
  refine k5.trans' ((K6.out.trans K7.out).trans' K8.out (T := fun k => k = w4.heap.size) (fun _ _ h => h) (fun _ _ h => h.elim)) (fun _ _ h => h) (fun k hk h => ?_)
  have := (kk.trans K4.out).size
  omega
end Law
end Go.Proofs.Ytbeiaobdapapjaa
