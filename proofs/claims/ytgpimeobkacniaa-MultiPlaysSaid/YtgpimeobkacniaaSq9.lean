/-
  seq: one that nobody made.
-/
import Derived.Test.YtgpimeobkacniaaSq8
set_option linter.unusedVariables false
set_option linter.unusedSimpArgs false
namespace Go.Proofs.Ytgpimeobkacniaa
open Go.RowKit
namespace Sq
open Oct Ids Mp
open Mem (M It blk ids rows)
/-- One that nobody made, its block known. -/
def Zq (w : World) (p : Value) : Prop := p = .pointer none ∨ ∃ b, p = .pointer (some ⟨b, 0, none⟩) ∧ w.heap[b]? = some (.cells #[.map none, .map none, .map none] 96 (0, 0))
theorem Zq.zp {w : World} {p : Value} (h : Zq w p) : Zp w p := by
  rcases h with h | ⟨b, h, c⟩
  · exact .inl h
  · exact .inr ⟨b, h, by rw [cell_of c]; rfl⟩
theorem Zq.calm {w w' : World} {p : Value} (h : Zq w p) (k : Keep (fun _ => False) w w') : Zq w' p := by
  rcases h with h | ⟨b, h, c⟩
  · exact .inl h
  · exact .inr ⟨b, h, k.get c (fun h => h)⟩
section
variable (w : World) (p : Value) (h : Zq w p)
include h
set_option maxRecDepth 100000 in
theorem zlen : Calls Try.prog 42 #[p] w fun e w' => e = .returned (.int .i64 0) ∧ w' = w := by
  have HZ : Hid (Zp w p) := h.zp
  clear h
  go_enter Try.func42, Try.ntmps42
  go_wp2_with (go_at_call 52; refine (znone _ p HZ.out).mono ?_; rintro e w1 ⟨rfl, h1⟩; replace h1 := h1.symm; subst h1)
  go_ret
  exact ⟨rfl, rfl⟩
set_option maxRecDepth 100000 in
theorem zorder : Calls Try.prog 16 #[p] w fun e w' => e = .returned (.slice none 0 0) ∧ Keep (fun _ => False) w w' := by
  have KW : Hid (Keep (fun _ => False) w _) := (Keep.refl (fun _ => False) w).alloc (.cells #[p] 25)
  have HZ : Hid (Zp (w.alloc (.cells #[p] 25)) p) := (h.calm KW.out).zp
  have c0 : (w.alloc (.cells #[p] 25)).cell? ⟨w.heap.size, 0, none⟩ = some p := by rw [cell_of (heap_alloc_new w _)]; rfl
  have hp : p.cells = #[p] := by rcases h with h | ⟨b, h, _⟩ <;> rw [h] <;> rfl
  have h1 : p.oneCell' = true := by rcases h with h | ⟨b, h, _⟩ <;> rw [h] <;> rfl
  rcases h with rfl | ⟨b, rfl, _⟩
  all_goals
    clear hp h1
    go_enter Try.func16, Try.ntmps16
    go_wp2_with (go_at_call 52; refine (znone _ _ HZ.out).mono ?_; rintro e w1 ⟨rfl, h1⟩; replace h1 := h1.symm; subst h1)
    go_ret
    exact ⟨rfl, KW.out⟩
set_option maxRecDepth 100000 in
theorem zput : Calls Try.prog 43 #[p] w fun e w' => e = .returned (.string ByteArray.empty) ∧ w' = w := by
  have HZ : Hid (Zp w p) := h.zp
  clear h
  go_enter Try.func43, Try.ntmps43
  go_wp2_with (go_at_call 52; refine (znone _ p HZ.out).mono ?_; rintro e w1 ⟨rfl, h1⟩; replace h1 := h1.symm; subst h1)
  go_ret
  exact ⟨rfl, rfl⟩
set_option maxRecDepth 100000 in
theorem zdelete (u : List UInt8) : Calls Try.prog 49 #[p, idv u] w fun e w' => e = .returned (.int .i64 8) ∧ Keep (fun _ => False) w w' := by
  have KW : Hid (Keep (fun _ => False) w _) := (Keep.refl (fun _ => False) w).alloc (.cells (u.map bv).toArray 35)
  have HZ : Hid (Zp _ p) := (h.calm KW.out).zp
  clear h
  go_enter Try.func49, Try.ntmps49
  go_wp2_with (go_at_call 52; refine (znone _ p HZ.out).mono ?_; rintro e w1 ⟨rfl, h1⟩; replace h1 := h1.symm; subst h1)
  go_ret
  exact ⟨rfl, KW.out⟩
set_option maxRecDepth 100000 in
theorem zinsert (u r : List UInt8) (g : Int) (s : ByteArray) : Calls Try.prog 48 #[p, idv u, .int .i64 g, idv r, .string s] w fun e w' => e = .returned (.int .i64 8) ∧ Keep (fun _ => False) w w' := by
  have KW : Hid (Keep (fun _ => False) w _) := ((Keep.refl (fun _ => False) w).alloc (.cells (u.map bv).toArray 35)).alloc (.cells (r.map bv).toArray 35)
  have HZ : Hid (Zp _ p) := (h.calm KW.out).zp
  clear h
  go_enter Try.func48, Try.ntmps48
  go_wp2_with (go_at_call 52; refine (znone _ p HZ.out).mono ?_; rintro e w1 ⟨rfl, h1⟩; replace h1 := h1.symm; subst h1)
  go_ret
  exact ⟨rfl, KW.out⟩
set_option maxRecDepth 100000 in
theorem zlist : Calls Try.prog 40 #[p] w fun e w' => e = .returned (.slice none 0 0) ∧ Keep (fun _ => False) w w' := by
  have HO : Hid (Calls Try.prog 16 #[p] w fun e w' => e = .returned (.slice none 0 0) ∧ Keep (fun _ => False) w w') := zorder w p h
  clear h
  go_enter Try.func40, Try.ntmps40
  go_wp2_with (go_at_call 16; refine HO.out.mono ?_; rintro e w1 ⟨rfl, k1⟩; have KW : Hid (Keep (fun _ => False) w w1) := k1; clear k1)
  refine wp_loop_rounds 1 ?_
  rw [rounds_succ]
  go_wp2
  go_ret
  exact ⟨rfl, KW.out⟩
end
theorem rowsB_len {B : Bhs} {m : Nat} (h : ∀ p ∈ B, p.2.2.length ≤ m) (r : List UInt8) : (rowsB B r).length ≤ m := by
  unfold rowsB rowB
  cases he : fget B r with
  | none => exact Nat.zero_le _
  | some p => exact h (r, p) (fget_mem he)
end Sq
end Go.Proofs.Ytgpimeobkacniaa
