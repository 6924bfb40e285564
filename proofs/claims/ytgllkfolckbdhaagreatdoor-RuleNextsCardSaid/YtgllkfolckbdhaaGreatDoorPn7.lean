/-
  The pen: Take.
-/
import Derived.Test.YtgllkfolckbdhaaGreatDoorPnB
import Derived.Test.YtgllkfolckbdhaaGreatDoorGSt
set_option linter.unusedVariables false
set_option linter.unusedSimpArgs false
namespace Go.Proofs.YtgllkfolckbdhaaGreatDoor
open Go.RowKit
namespace Pn
open Oct Ids Gn Hd
open Mem (M It blk ids rows)

theorem all_take {p : List UInt8 → Bool} {l : List (List UInt8)} {k : Nat} {y : List UInt8} (hy : l[k]? = some y) (h : (l.take k).all p = true) (hp : p y = true) : (l.take (k + 1)).all p = true := by
  rw [List.take_add_one, hy, List.all_append, h]
  simp [hp]
theorem all_false {p : List UInt8 → Bool} {l : List (List UInt8)} {k : Nat} {y : List UInt8} (hy : l[k]? = some y) (hp : p y = false) : l.all p = false := by
  rw [List.all_eq_false]
  exact ⟨y, List.mem_of_getElem? hy, by simp [hp]⟩
end Pn
end Go.Proofs.YtgllkfolckbdhaaGreatDoor
