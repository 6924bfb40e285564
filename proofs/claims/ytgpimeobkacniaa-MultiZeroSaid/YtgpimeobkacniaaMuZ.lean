/-
  multi: one that nobody made.
-/
import Derived.Test.YtgpimeobkacniaaGMb
set_option linter.unusedVariables false
set_option linter.unusedSimpArgs false
namespace Go.Proofs.Ytgpimeobkacniaa
open Go.RowKit
namespace Mu
open Oct Ids Mp
open Mem (M It blk ids rows)
open Sq (own_idat)
/-- One that nobody made, its block known. -/
def Zb (w : World) (p : Value) : Prop := p = .pointer none ∨ ∃ b, p = .pointer (some ⟨b, 0, none⟩) ∧ w.heap[b]? = some (.cells #[.map none, .map none] 75 (0, 0))
theorem Zb.zp {w : World} {p : Value} (h : Zb w p) : Zm w p := by
  rcases h with h | ⟨b, h, c⟩
  · exact .inl h
  · exact .inr ⟨b, h, by rw [cell_of c]; rfl⟩
theorem Zb.calm {w w' : World} {p : Value} (h : Zb w p) (k : Keep (fun _ => False) w w') : Zb w' p := by
  rcases h with h | ⟨b, h, c⟩
  · exact .inl h
  · exact .inr ⟨b, h, k.get c (fun h => h)⟩
section
variable (w : World) (p : Value) (h : Zb w p)
include h
set_option maxRecDepth 100000 in
theorem zmput : Calls Try.prog 35 #[p] w fun e w' => e = .returned (.string ByteArray.empty) ∧ w' = w := by
  have HZ : Hid (Zm w p) := h.zp
  clear h
  go_enter Try.func35, Try.ntmps35
  go_wp2_with (go_at_call 58; refine (zmnone _ p HZ.out).mono ?_; rintro e w1 ⟨rfl, h1⟩; replace h1 := h1.symm; subst h1)
  go_ret
  exact ⟨rfl, rfl⟩
set_option maxRecDepth 100000 in
theorem zmsorted : Calls Try.prog 56 #[p] w fun e w' => e = .returned (.slice none 0 0) ∧ w' = w := by
  have HZ : Hid (Zm w p) := h.zp
  clear h
  go_enter Try.func56, Try.ntmps56
  go_wp2_with (go_at_call 58; refine (zmnone _ p HZ.out).mono ?_; rintro e w1 ⟨rfl, h1⟩; replace h1 := h1.symm; subst h1)
  go_ret
  exact ⟨rfl, rfl⟩
set_option maxRecDepth 100000 in
theorem zmset (u : List UInt8) (k v : ByteArray) (o : Value) : Calls Try.prog 26 #[p, idv u, .string k, .string v, o] w fun e w' => e = .returned (.int .i64 8) ∧ Keep (fun _ => False) w w' := by
  have KW : Hid (Keep (fun _ => False) w _) := (Keep.refl (fun _ => False) w).alloc (.cells (u.map bv).toArray 35)
  have HZ : Hid (Zm _ p) := (h.calm KW.out).zp
  clear h
  go_enter Try.func26, Try.ntmps26
  go_wp2_with (go_at_call 58; refine (zmnone _ p HZ.out).mono ?_; rintro e w1 ⟨rfl, h1⟩; replace h1 := h1.symm; subst h1)
  go_ret
  exact ⟨rfl, KW.out⟩
set_option maxRecDepth 100000 in
theorem zmlist : Calls Try.prog 32 #[p] w fun e w' => e = .returned (.slice none 0 0) ∧ Keep (fun _ => False) w w' := by
  have HO : Hid (Calls Try.prog 56 #[p] w fun e w' => e = .returned (.slice none 0 0) ∧ w' = w) := zmsorted w p h
  have HN : Hid (OwnP w (.slice none 0 0) []) := (M.nilR (M.start (fun _ => False) w) 92 2 pr).get 0 rfl
  clear h
  go_enter Try.func32, Try.ntmps32
  go_wp2_with (go_at_call 56; refine HO.out.mono ?_; rintro e w1 ⟨rfl, h1⟩; replace h1 := h1.symm; subst h1)
  refine wp_loop_rounds 1 ?_
  rw [rounds_succ]
  go_wp2_with (first | (go_at_call 61; refine (sortP_any _ (.slice none 0 0) [] HN.out (by simp)).mono ?_; rintro e w5 ⟨rfl, es, _, _, _, _, k5⟩; have KW : Hid (Keep (fun _ => False) w w5) := k5.mono (fun _ _ h => by cases h); clear k5) | (go_at_call 65; refine (compactP_nil _).mono ?_; rintro e w6 ⟨rfl, h6⟩; replace h6 := h6.symm; subst h6))
  go_ret
  exact ⟨rfl, KW.out⟩
set_option maxRecDepth 100000 in
theorem zmget (key : ByteArray) : Calls Try.prog 28 #[p, .string key] w fun e w' => e = .returned (.slice none 0 0) ∧ Keep (fun _ => False) w w' := by
  have HO : Hid (Calls Try.prog 32 #[p] w fun e w' => e = .returned (.slice none 0 0) ∧ Keep (fun _ => False) w w') := zmlist w p h
  clear h
  go_enter Try.func28, Try.ntmps28
  go_wp2_with (go_at_call 32; refine HO.out.mono ?_; rintro e w1 ⟨rfl, k1⟩; have KW : Hid (Keep (fun _ => False) w w1) := k1; clear k1)
  refine wp_loop_rounds 1 ?_
  rw [rounds_succ]
  go_wp2
  go_ret
  exact ⟨rfl, KW.out⟩
set_option maxRecDepth 100000 in
theorem zmids (key : ByteArray) : Calls Try.prog 25 #[p, .string key] w fun e w' => ∃ a c, e = .returned (.slice a 0 c) ∧ Keep (fun _ => False) w w' := by
  have HO : Hid (Calls Try.prog 56 #[p] w fun e w' => e = .returned (.slice none 0 0) ∧ w' = w) := zmsorted w p h
  clear h
  go_enter Try.func25, Try.ntmps25
  go_wp2_with (go_at_call 56; refine HO.out.mono ?_; rintro e w1 ⟨rfl, h1⟩; replace h1 := h1.symm; subst h1)
  refine wp_loop_rounds 1 ?_
  rw [rounds_succ]
  go_wp2_with (first | (go_at_call 57; refine (set_any _ none 0 0 [] ⟨rfl, by simp, Nat.zero_le _, .inl rfl⟩ (by omega)).mono ?_; rintro e w2 ⟨v2, rfl, o2, k2, f2⟩; obtain ⟨va, vc, ev, _⟩ := o2.at; subst ev; have KW : Hid (Keep (fun _ => False) w w2) := k2; clear o2 k2 f2))
  go_ret
  exact ⟨_, _, rfl, KW.out⟩
end
end Mu
end Go.Proofs.Ytgpimeobkacniaa
