/-
  The pen: Has, All, cut.
-/
import Derived.Test.YtpchpdnjgdpdgaaGreatDoorPn2
set_option linter.unusedVariables false
set_option linter.unusedSimpArgs false
namespace Go.Proofs.YtpchpdnjgdpdgaaGreatDoor
open Go.RowKit
namespace Pn
open Oct Ids Gn Hd
open Mem (M It blk ids rows)

set_option maxRecDepth 100000 in
theorem none_ok {w : World} {b : Nat} {v : Value} {L : List Wt} {lost : Int} (h : PenAt w b v L lost) : Calls Tryz.prog 36 #[.pointer (some ⟨b, 0, none⟩)] w fun e w' => e = .returned (.bool false) ∧ w' = w := by
  obtain ⟨c0, c1, c2⟩ := h.cells
  clear h
  go_enter Tryz.func36, Tryz.ntmps36
  go_wp2
  go_ret
  exact ⟨rfl, rfl⟩
theorem hasT (w0 : World) (ib : Nat) (u : List UInt8) (hu : u.length = 32) (hi : w0.heap[ib]? = some (.cells (u.map bv).toArray 28 (0, 0))) (L : List Wt) :
    W_Tells (fun _ => False) w0 74 #[] #[.pointer (some ⟨ib, 0, none⟩)] L (fun x => x.id == u) := fun w1 x _ k => has1 w1 x ib u hu (k.get hi (fun h => h))
theorem has1_eg : ∀ args w, (callFunc 74 args).run Tryz.prog w = .ok (.enter 74 args) w := enters_of Tryz.func74 (by kernel_rfl) rfl
set_option maxRecDepth 100000 in
theorem phas (w : World) (b : Nat) (v : Value) (L : List Wt) (lost : Int) (h : PenAt w b v L lost) (hl : L.length ≤ 1000000) (u : List UInt8) (hu : u.length = 32) (q : Bool) (hq : L.any (fun x => x.id == u) = q) :
    Calls Tryz.prog 38 #[.pointer (some ⟨b, 0, none⟩), idv u] w fun e w' => e = .returned (.bool q) ∧ Keep (fun _ => False) w w' := by
  have HP : Hid (PenAt (w.alloc (.cells (u.map bv).toArray 28)) b v L lost) := h.calm ((Keep.refl _ _).alloc _)
  obtain ⟨c0, c1, c2⟩ := HP.out.cells
  obtain ⟨a, c, e, hat⟩ := HP.out.row
  subst e
  have HC : Hid (Calls Tryz.prog 73 #[.slice a L.length c, .func (.func 74) #[] #[.pointer (some ⟨w.heap.size, 0, none⟩)]] (w.alloc (.cells (u.map bv).toArray 28)) fun e w' => e = .returned (.bool q) ∧ Keep (fun _ => False) (w.alloc (.cells (u.map bv).toArray 28)) w') :=
    W_contains _ a L.length c L hat hl _ #[] #[.pointer (some ⟨w.heap.size, 0, none⟩)] _ has1_eg (hasT _ w.heap.size u hu (heap_alloc_new w _) L) q hq
  have KA : Hid (Keep (fun _ => False) w (w.alloc (.cells (u.map bv).toArray 28))) := (Keep.refl _ _).alloc _
  clear h hu hq hat
  go_enter Tryz.func38, Tryz.ntmps38
  go_wp2_with (first | (go_at_call 36; refine (none_ok HP.out).mono ?_; rintro e w1 ⟨rfl, rfl⟩) | (go_at_call 73; refine HC.out.mono ?_; rintro e w2 ⟨rfl, k2⟩; have K2 : Hid _ := k2; clear k2))
  go_ret
  exact ⟨rfl, KA.out.trans K2.out⟩
end Pn
end Go.Proofs.YtpchpdnjgdpdgaaGreatDoor
