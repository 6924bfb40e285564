/-
  The pen: cut.
-/
import Derived.Test.YtgllkfolckbdhaaGreatDoorPn3
import Derived.Test.YtgllkfolckbdhaaGreatDoorGTx
import Derived.Test.YtgllkfolckbdhaaGreatDoorGOp
set_option linter.unusedVariables false
set_option linter.unusedSimpArgs false
namespace Go.Proofs.YtgllkfolckbdhaaGreatDoor
open Go.RowKit
namespace Pn
open Oct Ids Gn Hd
open Mem (M It blk ids rows)

theorem pars_sub {L L' : List Wt} (hs : ∀ x ∈ L', x ∈ L) : (∀ k, (pars L').foot k → (pars L).foot k) ∧ ∀ w, (pars L).holds w → (pars L').holds w :=
  ⟨fun k ⟨x, hx, h⟩ => ⟨x, hs x hx, h⟩, fun w h x hx => h x (hs x hx)⟩
theorem mem_cut {L : List Wt} {i : Nat} : ∀ x ∈ L.take i ++ L.drop (i + 1), x ∈ L := fun x hx => by
  rcases List.mem_append.1 hx with h | h
  · exact List.mem_of_mem_take h
  · exact List.mem_of_mem_drop h
end Pn
end Go.Proofs.YtgllkfolckbdhaaGreatDoor
