/-
  DERIVED. GIVEN WITH THE SEED: THE CARDS: each row of YtgllkfolckbdhaaGreatDoorRows.lean that lists a variable, with what it lists TIED to the program's text (the seventh form; the later family's looks); each row that meets fmt, with fmt's text TOLD by the authors' own Lean function (tested against real Go, not proved from fmt's source: count such statements apart). THE CARD IS WHAT COUNTS. Prove the row's statement (the work); the ties are given (YtgllkfolckbdhaaGreatDoorTie.lean); close each card by the builder's one call (the guide's Derived/Test/ToyasCard.lean, 'card_holds'). Laid BY PROGRAM, IN A SANDBOX (cutbox-door.mjs). By AI agents, Wed Nov 11 2026. No macro, syntax, notation, axiom, sorry.
-/
import Derived.Test.YtgllkfolckbdhaaGreatDoorRows
import GoSem.ClaimSeven
namespace Go.Proofs.YtgllkfolckbdhaaGreatDoor
namespace Rows

/-- THE TIED CARD OF 'petrellaw15.RuleNexts'. -/
def ruleNextsCard : Claim7 := { stood := { row := ruleNextsRow, standIns := [], harness := (true, "37f840e8c92e3dd88cbd61e1fb6d9e8ad5bb793b6b786df4eb55c4c558a874b9"), looks := false }, kinds := [], alts := [], laidByText := true, laidKinds := [.data, .data], laidTests := true, laidLooks := .later }
def RuleNextsCardSaid : Prop := Claim7.holds Tryz.pinned (.plain (OpenSpec.ofChange ruleNextsSpec)) ruleNextsCard

/-- THE TIED CARD OF 'petrellaw16.DagOrder'. -/
def dagOrderCard : Claim7 := { stood := { row := dagOrderRow, standIns := [], harness := (true, "37f840e8c92e3dd88cbd61e1fb6d9e8ad5bb793b6b786df4eb55c4c558a874b9"), looks := false }, kinds := [], alts := [], laidByText := true, laidKinds := [.data, .data], laidTests := true, laidLooks := .later }
def DagOrderCardSaid : Prop := Claim7.holds Tryz.pinned (.plain (OpenSpec.ofChange dagOrderSpec)) dagOrderCard

/-- THE TIED CARD OF 'petrellaw16.DagPlays'. -/
def dagPlaysCard : Claim7 := { stood := { row := dagPlaysRow, standIns := [], harness := (true, "37f840e8c92e3dd88cbd61e1fb6d9e8ad5bb793b6b786df4eb55c4c558a874b9"), looks := false }, kinds := [], alts := [], laidByText := true, laidKinds := [.data, .data], laidTests := true, laidLooks := .later }
def DagPlaysCardSaid : Prop := Claim7.holds Tryz.pinned (.plain (OpenSpec.ofChange dagPlaysSpec)) dagPlaysCard

/-- THE SECOND FORM's CARD OF 'petrellaw15.RuleNexts'. -/
def ruleNextsUptoCard : Claim7 := { stood := { row := ruleNextsUptoRow, standIns := [], harness := (true, "37f840e8c92e3dd88cbd61e1fb6d9e8ad5bb793b6b786df4eb55c4c558a874b9"), looks := false }, kinds := [], alts := [], laidByText := true, laidKinds := [.data, .data], laidTests := true, laidLooks := .later }
def RuleNextsUptoCardSaid : Prop := Claim7.holds Tryz.pinned (.plain (OpenSpec.upto ruleNextsSpec)) ruleNextsUptoCard

/-- THE SECOND FORM's CARD OF 'petrellaw16.DagOrder'. -/
def dagOrderUptoCard : Claim7 := { stood := { row := dagOrderUptoRow, standIns := [], harness := (true, "37f840e8c92e3dd88cbd61e1fb6d9e8ad5bb793b6b786df4eb55c4c558a874b9"), looks := false }, kinds := [], alts := [], laidByText := true, laidKinds := [.data, .data], laidTests := true, laidLooks := .later }
def DagOrderUptoCardSaid : Prop := Claim7.holds Tryz.pinned (.plain (OpenSpec.upto dagOrderSpec)) dagOrderUptoCard

/-- THE SECOND FORM's CARD OF 'petrellaw16.DagPlays'. -/
def dagPlaysUptoCard : Claim7 := { stood := { row := dagPlaysUptoRow, standIns := [], harness := (true, "37f840e8c92e3dd88cbd61e1fb6d9e8ad5bb793b6b786df4eb55c4c558a874b9"), looks := false }, kinds := [], alts := [], laidByText := true, laidKinds := [.data, .data], laidTests := true, laidLooks := .later }
def DagPlaysUptoCardSaid : Prop := Claim7.holds Tryz.pinned (.plain (OpenSpec.upto dagPlaysSpec)) dagPlaysUptoCard
end Rows
end Go.Proofs.YtgllkfolckbdhaaGreatDoor
