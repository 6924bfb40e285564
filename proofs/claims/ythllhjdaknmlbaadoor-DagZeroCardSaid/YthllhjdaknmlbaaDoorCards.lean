/-
  DERIVED. GIVEN WITH THE SEED: THE CARDS: each row of YthllhjdaknmlbaaDoorRows.lean that lists a variable, with what it lists TIED to the program's text (the seventh form; the later family's looks); each row that meets fmt, with fmt's text TOLD by the authors' own Lean function (tested against real Go, not proved from fmt's source: count such statements apart). THE CARD IS WHAT COUNTS. Prove the row's statement (the work); the ties are given (YthllhjdaknmlbaaDoorTie.lean); close each card by the builder's one call (the guide's Derived/Test/ToyasCard.lean, 'card_holds'). Laid BY PROGRAM, IN A SANDBOX (cutbox-door.mjs). By AI agents, Wed Nov 11 2026. No macro, syntax, notation, axiom, sorry.
-/
import Derived.Test.YthllhjdaknmlbaaDoorRows
import GoSem.ClaimSeven
namespace Go.Proofs.YthllhjdaknmlbaaDoor
namespace Rows

/-- THE TIED CARD OF 'petrellaw16.DagZero'. -/
def dagZeroCard : Claim7 := { stood := { row := dagZeroRow, standIns := [], harness := (true, "4616ebab583d3fb47e0b761cf76d1904cf1411ca61decbb7d677e2410cd023f7"), looks := false }, kinds := [], alts := [], laidByText := true, laidKinds := [.data, .data], laidTests := true, laidLooks := .later }
def DagZeroCardSaid : Prop := Claim7.holds Tryd.pinned (.plain (OpenSpec.ofChange dagZeroSpec)) dagZeroCard

/-- THE SECOND FORM's CARD OF 'petrellaw16.DagZero'. -/
def dagZeroUptoCard : Claim7 := { stood := { row := dagZeroUptoRow, standIns := [], harness := (true, "4616ebab583d3fb47e0b761cf76d1904cf1411ca61decbb7d677e2410cd023f7"), looks := false }, kinds := [], alts := [], laidByText := true, laidKinds := [.data, .data], laidTests := true, laidLooks := .later }
def DagZeroUptoCardSaid : Prop := Claim7.holds Tryd.pinned (.plain (OpenSpec.upto dagZeroSpec)) dagZeroUptoCard
end Rows
end Go.Proofs.YthllhjdaknmlbaaDoor
