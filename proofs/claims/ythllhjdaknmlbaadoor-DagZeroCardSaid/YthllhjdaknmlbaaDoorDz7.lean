/-
  petrellaw16: much of one header; Heads of a dag that nobody made.
-/
import Derived.Test.YthllhjdaknmlbaaDoorDz6
set_option linter.unusedVariables false
set_option linter.unusedSimpArgs false
namespace Go.Proofs.YthllhjdaknmlbaaDoor
open Go.RowKit
namespace Dz
open Oct Ids Mp Gn Hd Ru
open Mem (M It blk ids rows)
section
variable (w : World) (g : Nat) (a : Option Addr) (n c : Nat) (G : Int) (T : ByteArray) (A Q Z : Int) (m : List UInt8)
set_option maxRecDepth 100000 in
theorem much_no (h : HAt w g (.slice a n c) G T A Q Z m) (hn : n ≤ 20) (ht : T.size ≤ 100) : Calls Tryd.prog 4 #[.slice (some ⟨g, 0, none⟩) 1 1] w fun e w' => e = .returned (.bool false) ∧ w' = w := by
  obtain ⟨c0, _, c2, _⟩ := h.cells
  have C0 : Hid _ := c0
  have C2 : Hid _ := c2
  clear h
  go_enter Tryd.func4, Tryd.ntmps4
  go_wp2
  go_loopw [3] (fun s3 wr => ∃ k : Nat, k ≤ 1 ∧ s3 = .int .i64 k ∧ wr = w) (fun s3 _ => 1 - (intOf s3).toNat)
  case atStart => exact ⟨0, by omega, rfl, rfl⟩
  case round =>
    obtain ⟨k, hk, rfl, hw⟩ := hrel
    subst hw
    rcases (by omega : k = 0 ∨ k = 1) with rfl | rfl
    · have hn' : ¬ (20 : Int) < (n : Int) := by omega
      have ht' : ¬ (100 : Int) < (T.size : Int) := by omega
      go_wp2
      go_roundw
      case rel => exact ⟨1, by omega, rfl, trivial⟩
      case measure => simp [intOf]
    · go_wp2
      go_ret
      exact ⟨rfl, rfl⟩
set_option maxRecDepth 100000 in
theorem much_yes (h : HAt w g (.slice a n c) G T A Q Z m) (hn : 20 < n ∨ (n ≤ 20 ∧ 100 < T.size)) : Calls Tryd.prog 4 #[.slice (some ⟨g, 0, none⟩) 1 1] w fun e w' => e = .returned (.bool true) ∧ w' = w := by
  obtain ⟨c0, _, c2, _⟩ := h.cells
  clear h
  go_enter Tryd.func4, Tryd.ntmps4
  go_wp2
  go_loopw [3] (fun s3 wr => s3 = .int .i64 0 ∧ wr = w) (fun s3 _ => 1 - (intOf s3).toNat)
  case atStart => exact ⟨by go_num, rfl⟩
  case round =>
    obtain ⟨rfl, hw⟩ := hrel
    subst hw
    rcases hn with hn | ⟨hn, ht⟩
    · have hn' : (20 : Int) < (n : Int) := by omega
      go_wp2
      go_ret
      exact ⟨rfl, rfl⟩
    · have hn' : ¬ (20 : Int) < (n : Int) := by omega
      have ht' : (100 : Int) < (T.size : Int) := by omega
      go_wp2
      go_ret
      exact ⟨rfl, rfl⟩
end
set_option maxRecDepth 100000 in
theorem index0 (w : World) (fv : Value) : Calls Tryd.prog 35 #[.slice none 0 0, fv] w fun e w' => e = .returned (.int .i64 (-1)) ∧ Keep (fun _ => False) w w' := by
  go_enter Tryd.func35, Tryd.ntmps35
  go_wp2
  go_loopw [8] (fun s8 wr => s8 = .int .i64 0 ∧ Keep (fun _ => False) w wr) (fun _ _ => 0)
  case atStart => exact ⟨by go_num, Keep.refl _ _⟩
  case round =>
    obtain ⟨rfl, hk⟩ := hrel
    have HK : Hid _ := hk
    clear hk
    go_wp2
    go_ret
    exact ⟨rfl, HK.out⟩
set_option maxRecDepth 100000 in
theorem del0 (w : World) (fv : Value) : Calls Tryd.prog 23 #[.slice none 0 0, fv] w fun e w' => e = .returned (.slice none 0 0) ∧ Keep (fun _ => False) w w' := by
  go_enter Tryd.func23, Tryd.ntmps23
  go_wp2_with (first | (go_at_call 35; refine (index0 _ _).mono ?_; rintro e w1 ⟨rfl, k1⟩; have K1 : Hid _ := k1; clear k1))
  go_ret
  exact ⟨rfl, K1.out⟩
set_option maxRecDepth 100000 in
theorem zheads (w : World) (p : Value) (hp : p = .pointer none) : Calls Tryd.prog 11 #[p] w fun e w' => e = .returned (.slice none 0 0) ∧ Keep (fun _ => False) w w' := by
  subst hp
  have HM : Hid (M (fun _ => False) w _ [blk w.heap.size (.cells #[.pointer none] 30)]) := (M.start _ w).alloc (.cells #[.pointer none] 30) rfl
  go_enter Tryd.func11, Tryd.ntmps11
  go_wp2_with (first | (go_at_call 10; refine (zall _ (.pointer none) (.inl rfl)).mono ?_; rintro e w1 ⟨rfl, h1⟩; rw [h1]; clear h1) | (go_at_call 23; refine (del0 _ _).mono ?_; rintro e w2 ⟨rfl, k2⟩; have HM : Hid _ := HM.out.calm k2; clear k2))
  go_ret
  exact ⟨rfl, HM.out.keep⟩
end Dz
end Go.Proofs.YthllhjdaknmlbaaDoor
