/-
  The pen: Wants.
-/
import Derived.Test.YtpchpdnjgdpdgaaGreatDoorPn3
import Derived.Test.YtpchpdnjgdpdgaaGreatDoorGIf
set_option linter.unusedVariables false
set_option linter.unusedSimpArgs false
namespace Go.Proofs.YtpchpdnjgdpdgaaGreatDoor
open Go.RowKit
namespace Pn
open Oct Ids Gn Hd
open Mem (M It blk ids rows)
theorem at_callW {P : Program} {f : Nat} {w : World} {Q : Ending → World → Prop} (args : Array Value) (h : Calls P f args w Q) : Calls P f args w Q := h
theorem less_le (l m : List (List UInt8)) : (IdL.lessL l m).length ≤ l.length := by
  unfold IdL.lessL
  exact Nat.le_trans (List.length_filter_le _ _) (IdL.setL_len l)
theorem flat_le (L : List Wt) (h : ∀ x ∈ L, x.l.length ≤ 100) : (L.flatMap fun x : Wt => x.l).length ≤ 100 * L.length := by
  induction L with
  | nil => simp
  | cons x L ih =>
    rw [List.flatMap_cons, List.length_append, List.length_cons]
    have := ih (fun y hy => h y (List.mem_cons_of_mem _ hy))
    have := h x List.mem_cons_self
    omega
end Pn
end Go.Proofs.YtpchpdnjgdpdgaaGreatDoor
