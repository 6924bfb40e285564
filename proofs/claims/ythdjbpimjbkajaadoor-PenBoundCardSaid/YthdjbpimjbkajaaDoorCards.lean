/-
  DERIVED. GIVEN WITH THE SEED: THE CARDS: each row of YthdjbpimjbkajaaDoorRows.lean that lists a variable, with what it lists TIED to the program's text (the seventh form; the later family's looks); each row that meets fmt, with fmt's text TOLD by the authors' own Lean function (tested against real Go, not proved from fmt's source: count such statements apart). THE CARD IS WHAT COUNTS. Prove the row's statement (the work); the ties are given (YthdjbpimjbkajaaDoorTie.lean); close each card by the builder's one call (the guide's Derived/Test/ToyasCard.lean, 'card_holds'). Laid BY PROGRAM, IN A SANDBOX (cutbox-door.mjs). By AI agents, Wed Nov 11 2026. No macro, syntax, notation, axiom, sorry.
-/
import Derived.Test.YthdjbpimjbkajaaDoorRows
import GoSem.ClaimSeven
namespace Go.Proofs.YthdjbpimjbkajaaDoor
namespace Rows

/-- THE TIED CARD OF 'petrellaw08.HeaderOrders'. -/
def headerOrdersCard : Claim7 := { stood := { row := headerOrdersRow, standIns := [], harness := (true, "d6eb3469bea496608b14c86a82d9178aeef075f3f34e32ae71dbce2473ae3a06"), looks := false }, kinds := [], alts := [], laidByText := true, laidKinds := [.data, .data], laidTests := true, laidLooks := .later }
def HeaderOrdersCardSaid : Prop := Claim7.holds Tryd.pinned (.plain (OpenSpec.ofChange headerOrdersSpec)) headerOrdersCard

/-- THE TIED CARD OF 'petrellaw08.HeaderPuts'. -/
def headerPutsCard : Claim7 := { stood := { row := headerPutsRow, standIns := [], harness := (true, "d6eb3469bea496608b14c86a82d9178aeef075f3f34e32ae71dbce2473ae3a06"), looks := false }, kinds := [], alts := [], laidByText := true, laidKinds := [.data, .data], laidTests := true, laidLooks := .later }
def HeaderPutsCardSaid : Prop := Claim7.holds Tryd.pinned (.plain (OpenSpec.ofChange headerPutsSpec)) headerPutsCard

/-- THE TIED CARD OF 'petrellaw08.HeaderReads'. -/
def headerReadsCard : Claim7 := { stood := { row := headerReadsRow, standIns := [], harness := (true, "d6eb3469bea496608b14c86a82d9178aeef075f3f34e32ae71dbce2473ae3a06"), looks := false }, kinds := [], alts := [], laidByText := true, laidKinds := [.data, .data], laidTests := true, laidLooks := .later }
def HeaderReadsCardSaid : Prop := Claim7.holds Tryd.pinned (.plain (OpenSpec.ofChange headerReadsSpec)) headerReadsCard

/-- THE TIED CARD OF 'petrellaw08.HeaderBack'. -/
def headerBackCard : Claim7 := { stood := { row := headerBackRow, standIns := [], harness := (true, "d6eb3469bea496608b14c86a82d9178aeef075f3f34e32ae71dbce2473ae3a06"), looks := false }, kinds := [], alts := [], laidByText := true, laidKinds := [.data, .data], laidTests := true, laidLooks := .later }
def HeaderBackCardSaid : Prop := Claim7.holds Tryd.pinned (.plain (OpenSpec.ofChange headerBackSpec)) headerBackCard

/-- THE TIED CARD OF 'petrellaw18.PenBound'. -/
def penBoundCard : Claim7 := { stood := { row := penBoundRow, standIns := [], harness := (true, "d6eb3469bea496608b14c86a82d9178aeef075f3f34e32ae71dbce2473ae3a06"), looks := false }, kinds := [], alts := [], laidByText := true, laidKinds := [.data, .data], laidTests := true, laidLooks := .later }
def PenBoundCardSaid : Prop := Claim7.holds Tryd.pinned (.plain (OpenSpec.ofChange penBoundSpec)) penBoundCard

/-- THE TIED CARD OF 'petrellaw18.PenZero'. -/
def penZeroCard : Claim7 := { stood := { row := penZeroRow, standIns := [], harness := (true, "d6eb3469bea496608b14c86a82d9178aeef075f3f34e32ae71dbce2473ae3a06"), looks := false }, kinds := [], alts := [], laidByText := true, laidKinds := [.data, .data], laidTests := true, laidLooks := .later }
def PenZeroCardSaid : Prop := Claim7.holds Tryd.pinned (.plain (OpenSpec.ofChange penZeroSpec)) penZeroCard

/-- THE SECOND FORM's CARD OF 'petrellaw08.HeaderOrders'. -/
def headerOrdersUptoCard : Claim7 := { stood := { row := headerOrdersUptoRow, standIns := [], harness := (true, "d6eb3469bea496608b14c86a82d9178aeef075f3f34e32ae71dbce2473ae3a06"), looks := false }, kinds := [], alts := [], laidByText := true, laidKinds := [.data, .data], laidTests := true, laidLooks := .later }
def HeaderOrdersUptoCardSaid : Prop := Claim7.holds Tryd.pinned (.plain (OpenSpec.upto headerOrdersSpec)) headerOrdersUptoCard

/-- THE SECOND FORM's CARD OF 'petrellaw08.HeaderPuts'. -/
def headerPutsUptoCard : Claim7 := { stood := { row := headerPutsUptoRow, standIns := [], harness := (true, "d6eb3469bea496608b14c86a82d9178aeef075f3f34e32ae71dbce2473ae3a06"), looks := false }, kinds := [], alts := [], laidByText := true, laidKinds := [.data, .data], laidTests := true, laidLooks := .later }
def HeaderPutsUptoCardSaid : Prop := Claim7.holds Tryd.pinned (.plain (OpenSpec.upto headerPutsSpec)) headerPutsUptoCard

/-- THE SECOND FORM's CARD OF 'petrellaw08.HeaderReads'. -/
def headerReadsUptoCard : Claim7 := { stood := { row := headerReadsUptoRow, standIns := [], harness := (true, "d6eb3469bea496608b14c86a82d9178aeef075f3f34e32ae71dbce2473ae3a06"), looks := false }, kinds := [], alts := [], laidByText := true, laidKinds := [.data, .data], laidTests := true, laidLooks := .later }
def HeaderReadsUptoCardSaid : Prop := Claim7.holds Tryd.pinned (.plain (OpenSpec.upto headerReadsSpec)) headerReadsUptoCard

/-- THE SECOND FORM's CARD OF 'petrellaw08.HeaderBack'. -/
def headerBackUptoCard : Claim7 := { stood := { row := headerBackUptoRow, standIns := [], harness := (true, "d6eb3469bea496608b14c86a82d9178aeef075f3f34e32ae71dbce2473ae3a06"), looks := false }, kinds := [], alts := [], laidByText := true, laidKinds := [.data, .data], laidTests := true, laidLooks := .later }
def HeaderBackUptoCardSaid : Prop := Claim7.holds Tryd.pinned (.plain (OpenSpec.upto headerBackSpec)) headerBackUptoCard

/-- THE SECOND FORM's CARD OF 'petrellaw18.PenBound'. -/
def penBoundUptoCard : Claim7 := { stood := { row := penBoundUptoRow, standIns := [], harness := (true, "d6eb3469bea496608b14c86a82d9178aeef075f3f34e32ae71dbce2473ae3a06"), looks := false }, kinds := [], alts := [], laidByText := true, laidKinds := [.data, .data], laidTests := true, laidLooks := .later }
def PenBoundUptoCardSaid : Prop := Claim7.holds Tryd.pinned (.plain (OpenSpec.upto penBoundSpec)) penBoundUptoCard

/-- THE SECOND FORM's CARD OF 'petrellaw18.PenZero'. -/
def penZeroUptoCard : Claim7 := { stood := { row := penZeroUptoRow, standIns := [], harness := (true, "d6eb3469bea496608b14c86a82d9178aeef075f3f34e32ae71dbce2473ae3a06"), looks := false }, kinds := [], alts := [], laidByText := true, laidKinds := [.data, .data], laidTests := true, laidLooks := .later }
def PenZeroUptoCardSaid : Prop := Claim7.holds Tryd.pinned (.plain (OpenSpec.upto penZeroSpec)) penZeroUptoCard
end Rows
end Go.Proofs.YthdjbpimjbkajaaDoor
