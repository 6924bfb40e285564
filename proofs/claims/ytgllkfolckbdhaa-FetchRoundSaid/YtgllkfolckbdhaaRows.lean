/-
  No cell of these rows narrows 'for every input' (looked for: loops, veiled, ifaces, maps, wideKeys, modest, calm, conditions, laid).
  DERIVED. THE GIVEN ROWS OF THIS SEAT. 3 by the template 'for every input the law returns true; each argument reads behind the call as it read before'; 0 by the template 'total and deterministic' (their statements: YtgllkfolckbdhaaTotals.lean).
  GIVEN WITH THE SEED: the statements are not yours to turn. If you find one false, say at which input.
  Laid BY PROGRAM, IN A SANDBOX (cutbox-rows.mjs): the forced cells as the released guide's own fill.sh prints them over the translation fa00d6a8dd86d1df… (all of the seat's roots in one cut). By AI agents, Wed Nov 11 2026. No macro, syntax, notation, axiom, sorry.
-/
import Derived.Test.YtgllkfolckbdhaaChecked
import GoSem.Claim
import GoSem.ClaimJoined
import GoSem.ClaimMapViews
import Derived.JoinedTies
import Derived.KernelRfl
namespace Go.Proofs.Ytgllkfolckbdhaa
/- THE CELL 'sum', in the pinned program and in every row, IS THE sha256 OF THE DUMP (.gsa) THAT YtgllkfolckbdhaaProg.lean LOADS. Nothing in Lean hashes anything: it is a label: what it is worth is what the hold of that sum in a sandbox is worth. -/
noncomputable def Try.pinned : Pinned := { name := "ytgllkfolckbdhaa", sum := "fa00d6a8dd86d1df49dd83673406cb2b7cee39b47115061db8b9d5a139f30264", checked := Try.checked }
namespace Rows
def none {H : Type} : Left H := { results := [], args := [] }

/-- 'petrellaw33.FetchRound': WHATEVER THE INPUT: true; the input reads as it did. -/
def fetchRoundSpec : ChangeSpec := { name := "fetchRound", fn := fun _ => fun
  | [d1, d2, d3] => { results := [.lit (.bool true)], args := [d1, d2, d3] }
  | _ => none }
def fetchRoundRow : OpenClaim := { program := "ytgllkfolckbdhaa", sum := "fa00d6a8dd86d1df49dd83673406cb2b7cee39b47115061db8b9d5a139f30264", func := "petrel/petrellaw33.FetchRound", spec := "fetchRound", inPlace := ["internal/bytealg.Compare"], unfollowed := true, recurses := true, plainKeys := false, apart := false }
def FetchRoundSaid : Prop := fetchRoundRow.holds Try.pinned (OpenSpec.ofChange fetchRoundSpec)

/-- ITS FALSE NEIGHBOUR: 'it returns false'. Refute it at one input. -/
def fetchRoundWrong : ChangeSpec := { name := "fetchRound", fn := fun _ => fun
  | [d1, d2, d3] => { results := [.lit (.bool false)], args := [d1, d2, d3] }
  | _ => none }
def FetchRoundWrongFalsely : Prop := fetchRoundRow.holds Try.pinned (OpenSpec.ofChange fetchRoundWrong)

/-- 'petrellaw33.FetchBound': WHATEVER THE INPUT: true; the input reads as it did. -/
def fetchBoundSpec : ChangeSpec := { name := "fetchBound", fn := fun _ => fun
  | [d1, d2] => { results := [.lit (.bool true)], args := [d1, d2] }
  | _ => none }
def fetchBoundRow : OpenClaim := { program := "ytgllkfolckbdhaa", sum := "fa00d6a8dd86d1df49dd83673406cb2b7cee39b47115061db8b9d5a139f30264", func := "petrel/petrellaw33.FetchBound", spec := "fetchBound", inPlace := ["internal/bytealg.Compare"], unfollowed := true, recurses := true, plainKeys := false, apart := false }
def FetchBoundSaid : Prop := fetchBoundRow.holds Try.pinned (OpenSpec.ofChange fetchBoundSpec)

/-- ITS FALSE NEIGHBOUR: 'it returns false'. Refute it at one input. -/
def fetchBoundWrong : ChangeSpec := { name := "fetchBound", fn := fun _ => fun
  | [d1, d2] => { results := [.lit (.bool false)], args := [d1, d2] }
  | _ => none }
def FetchBoundWrongFalsely : Prop := fetchBoundRow.holds Try.pinned (OpenSpec.ofChange fetchBoundWrong)

/-- 'petrellaw33.FetchZero': WHATEVER THE INPUT: true; the input reads as it did. -/
def fetchZeroSpec : ChangeSpec := { name := "fetchZero", fn := fun _ => fun
  | [d1, d2, d3] => { results := [.lit (.bool true)], args := [d1, d2, d3] }
  | _ => none }
def fetchZeroRow : OpenClaim := { program := "ytgllkfolckbdhaa", sum := "fa00d6a8dd86d1df49dd83673406cb2b7cee39b47115061db8b9d5a139f30264", func := "petrel/petrellaw33.FetchZero", spec := "fetchZero", inPlace := ["internal/bytealg.Compare"], unfollowed := true, recurses := true, plainKeys := false, apart := false }
def FetchZeroSaid : Prop := fetchZeroRow.holds Try.pinned (OpenSpec.ofChange fetchZeroSpec)

/-- ITS FALSE NEIGHBOUR: 'it returns false'. Refute it at one input. -/
def fetchZeroWrong : ChangeSpec := { name := "fetchZero", fn := fun _ => fun
  | [d1, d2, d3] => { results := [.lit (.bool false)], args := [d1, d2, d3] }
  | _ => none }
def FetchZeroWrongFalsely : Prop := fetchZeroRow.holds Try.pinned (OpenSpec.ofChange fetchZeroWrong)

/- THE SECOND FORM. 'bulk': how many values and letters a reading holds, each counted each time it is reached (what is shared counts as often as it is met; a slice's spare places count too). A statement '..UptoSaid' is the law's where the arguments, and the package variables that the reading takes, are together of bulk at most 1048576: NARROWER than '..Said'. Prove '..Said' where nothing that the law and all that it calls make is longer than what came in: it says more and counts as full. Else prove '..UptoSaid'. A law counts once. -/
mutual
def uptoBulk {H : Type} : DataW H → Nat
  | .lit (.string bytes) => bytes.length + 1
  | .lit _ => 1
  | .nil => 1
  | .ptr d => uptoBulk d + 1
  | .slice elems spare => uptoBulkAll elems + uptoBulkAll spare + 1
  | .agg parts => uptoBulkAll parts + 1
  | .iface _ d => uptoBulk d + 1
  | .map entries => uptoBulkEntries entries + 1
  | .held _ => 1
def uptoBulkAll {H : Type} : List (DataW H) → Nat
  | [] => 0
  | d :: r => uptoBulk d + uptoBulkAll r
def uptoBulkEntries {H : Type} : List (Lit × DataW H) → Nat
  | [] => 0
  | x :: r => uptoBulkEntry x + uptoBulkEntries r
def uptoBulkEntry {H : Type} : Lit × DataW H → Nat
  | (.string bytes, d) => bytes.length + uptoBulk d + 1
  | (_, d) => uptoBulk d + 1
 end
def uptoSmall : (H : Type) → List (DataW H) → Bool := fun _ ds => decide (uptoBulkAll ds ≤ 1048576)
def OpenSpec.upto (s : _root_.Go.ChangeSpec) : _root_.Go.OpenSpec := { _root_.Go.OpenSpec.ofChange s with cond := some uptoSmall }

/-- 'petrellaw33.FetchRound', WHERE WHAT IT READS IS OF BULK AT MOST 1048576: true; the input reads as it did. -/
def fetchRoundUptoRow : OpenClaim := { program := "ytgllkfolckbdhaa", sum := "fa00d6a8dd86d1df49dd83673406cb2b7cee39b47115061db8b9d5a139f30264", func := "petrel/petrellaw33.FetchRound", spec := "fetchRound", inPlace := ["internal/bytealg.Compare"], unfollowed := true, recurses := true, plainKeys := false, apart := false, narrowed := true }
def FetchRoundUptoSaid : Prop := fetchRoundUptoRow.holds Try.pinned (OpenSpec.upto fetchRoundSpec)

/-- 'petrellaw33.FetchBound', WHERE WHAT IT READS IS OF BULK AT MOST 1048576: true; the input reads as it did. -/
def fetchBoundUptoRow : OpenClaim := { program := "ytgllkfolckbdhaa", sum := "fa00d6a8dd86d1df49dd83673406cb2b7cee39b47115061db8b9d5a139f30264", func := "petrel/petrellaw33.FetchBound", spec := "fetchBound", inPlace := ["internal/bytealg.Compare"], unfollowed := true, recurses := true, plainKeys := false, apart := false, narrowed := true }
def FetchBoundUptoSaid : Prop := fetchBoundUptoRow.holds Try.pinned (OpenSpec.upto fetchBoundSpec)

/-- 'petrellaw33.FetchZero', WHERE WHAT IT READS IS OF BULK AT MOST 1048576: true; the input reads as it did. -/
def fetchZeroUptoRow : OpenClaim := { program := "ytgllkfolckbdhaa", sum := "fa00d6a8dd86d1df49dd83673406cb2b7cee39b47115061db8b9d5a139f30264", func := "petrel/petrellaw33.FetchZero", spec := "fetchZero", inPlace := ["internal/bytealg.Compare"], unfollowed := true, recurses := true, plainKeys := false, apart := false, narrowed := true }
def FetchZeroUptoSaid : Prop := fetchZeroUptoRow.holds Try.pinned (OpenSpec.upto fetchZeroSpec)

end Rows
end Go.Proofs.Ytgllkfolckbdhaa
