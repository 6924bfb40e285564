/-
  Contracts of the writer's and the reader's small functions.
-/
import Derived.Test.YtmnmemeldjbifaaBase
import Derived.Test.YtmnmemeldjbifaaRows
import Derived.BigQuiet
import Derived.StillTailTactics
import Derived.ChangeAlike
import Derived.RegionTactic
import Derived.Defers
set_option linter.unusedVariables false
set_option linter.unusedSimpArgs false
namespace Go.Proofs.Ytmnmemeldjbifaa
open Go.RowKit
namespace Oct

set_option maxRecDepth 100000 in
theorem wnone_nil (w : World) : Calls Try.prog 71 #[.pointer none] w fun e w' => e = .returned (.bool true) ∧ w = w' := by
  go_enter Try.func71, Try.ntmps71
  go_wp2
  go_ret
  exact ⟨rfl, rfl⟩

set_option maxRecDepth 100000 in
theorem wnone (w : World) (b : Nat) (m : Bool) (h : w.cell? ⟨b, 2, none⟩ = some (.bool m)) : Calls Try.prog 71 #[.pointer (some ⟨b, 0, none⟩)] w fun e w' => e = .returned (.bool (!m)) ∧ w = w' := by
  go_enter Try.func71, Try.ntmps71
  go_wp2
  go_ret
  exact ⟨rfl, rfl⟩

/-- How many bits. -/
def nbits (k : Int) : Int := if k = 4 then 32 else if k = 2 then 16 else if k = 1 then 8 else 0

set_option maxRecDepth 100000 in
theorem bits_any (k : Int) (w : World) : Calls Try.prog 68 #[.int .i64 k] w fun e w' => e = .returned (.int .i64 (nbits k)) ∧ w = w' := by
  by_cases h4 : k = 4
  · subst h4
    go_enter Try.func68, Try.ntmps68
    go_wp2
    go_ret
    exact ⟨rfl, rfl⟩
  by_cases h2 : k = 2
  · subst h2
    go_enter Try.func68, Try.ntmps68
    go_wp2
    go_ret
    exact ⟨rfl, rfl⟩
  by_cases h1 : k = 1
  · subst h1
    go_enter Try.func68, Try.ntmps68
    go_wp2
    go_ret
    exact ⟨rfl, rfl⟩
  go_enter Try.func68, Try.ntmps68
  go_wp2
  go_ret
  exact ⟨by simp [nbits, h4, h2, h1], rfl⟩

theorem bits_is (k v : Int) (w : World) (h : nbits k = v) : Calls Try.prog 68 #[.int .i64 k] w fun e w' => e = .returned (.int .i64 v) ∧ w = w' := h ▸ bits_any k w

set_option maxRecDepth 100000 in
/-- 'fail', entered as a deferred call. -/
theorem fail_d (b be : Nat) (bad e0 : Int) (u : FrameMode) (w : World) (hc : w.cell? ⟨b, 1, none⟩ = some (.int .i64 bad)) (he : w.cell? ⟨be, 0, none⟩ = some (.int .i64 e0)) (hz : w.frozen? ⟨b, 1, none⟩ = false) :
    CallsD Try.prog 72 #[.pointer (some ⟨b, 0, none⟩), .pointer (some ⟨be, 0, none⟩)] u w fun e u' w' => u' = u ∧ (e = .returned (.tuple #[]) ∧ w' = if bad = 0 then w.setCell ⟨b, 1, none⟩ (.int .i64 e0) else w) := by
  by_cases h0 : bad = 0
  · subst h0
    go_enter_d Try.func72, Try.ntmps72
    go_wp2
    go_end0
    exact ⟨rfl, by simp⟩
  · have hb : (bad == 0) = false := by simpa using h0
    go_enter_d Try.func72, Try.ntmps72
    go_wp2
    go_end0
    exact ⟨rfl, by simp [h0]⟩
end Oct
end Go.Proofs.Ytmnmemeldjbifaa
