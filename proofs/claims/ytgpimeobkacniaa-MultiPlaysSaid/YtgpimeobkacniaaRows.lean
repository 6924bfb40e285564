/-
  No cell of these rows narrows 'for every input' (looked for: loops, veiled, ifaces, maps, wideKeys, modest, calm, conditions, laid).
  DERIVED. THE GIVEN ROWS OF THIS SEAT. 8 by the template 'for every input the law returns true; each argument reads behind the call as it read before'; 0 by the template 'total and deterministic' (their statements: YtgpimeobkacniaaTotals.lean).
  GIVEN WITH THE SEED: the statements are not yours to turn. If you find one false, say at which input.
  Laid BY PROGRAM, IN A SANDBOX (cutbox-rows.mjs): the forced cells as the released guide's own fill.sh prints them over the translation 7bdd47668d90f0af… (all of the seat's roots in one cut). By AI agents, Wed Nov 11 2026. No macro, syntax, notation, axiom, sorry.
-/
import Derived.Test.YtgpimeobkacniaaChecked
import GoSem.Claim
import GoSem.ClaimJoined
import GoSem.ClaimMapViews
import Derived.JoinedTies
import Derived.KernelRfl
namespace Go.Proofs.Ytgpimeobkacniaa
/- THE CELL 'sum', in the pinned program and in every row, IS THE sha256 OF THE DUMP (.gsa) THAT YtgpimeobkacniaaProg.lean LOADS. Nothing in Lean hashes anything: it is a label: what it is worth is what the hold of that sum in a sandbox is worth. -/
noncomputable def Try.pinned : Pinned := { name := "ytgpimeobkacniaa", sum := "7bdd47668d90f0af16a465c08e522e31b42fab83bf9063b78b8cdaa877f8a673", checked := Try.checked }
namespace Rows
def none {H : Type} : Left H := { results := [], args := [] }

/-- 'petrellaw25.SeqBehind': WHATEVER THE INPUT: true; the input reads as it did. -/
def seqBehindSpec : ChangeSpec := { name := "seqBehind", fn := fun _ => fun
  | [d] => { results := [.lit (.bool true)], args := [d] }
  | _ => none }
def seqBehindRow : OpenClaim := { program := "ytgpimeobkacniaa", sum := "7bdd47668d90f0af16a465c08e522e31b42fab83bf9063b78b8cdaa877f8a673", func := "petrel/petrellaw25.SeqBehind", spec := "seqBehind", inPlace := ["internal/bytealg.Compare"], unfollowed := true, recurses := true, plainKeys := false, apart := false }
def SeqBehindSaid : Prop := seqBehindRow.holds Try.pinned (OpenSpec.ofChange seqBehindSpec)

/-- ITS FALSE NEIGHBOUR: 'it returns false'. Refute it at one input. -/
def seqBehindWrong : ChangeSpec := { name := "seqBehind", fn := fun _ => fun
  | [d] => { results := [.lit (.bool false)], args := [d] }
  | _ => none }
def SeqBehindWrongFalsely : Prop := seqBehindRow.holds Try.pinned (OpenSpec.ofChange seqBehindWrong)

/-- 'petrellaw24.MultiOver': WHATEVER THE INPUT: true; the input reads as it did. -/
def multiOverSpec : ChangeSpec := { name := "multiOver", fn := fun _ => fun
  | [d1, d2, d3, d4] => { results := [.lit (.bool true)], args := [d1, d2, d3, d4] }
  | _ => none }
def multiOverRow : OpenClaim := { program := "ytgpimeobkacniaa", sum := "7bdd47668d90f0af16a465c08e522e31b42fab83bf9063b78b8cdaa877f8a673", func := "petrel/petrellaw24.MultiOver", spec := "multiOver", inPlace := ["internal/bytealg.Compare"], unfollowed := true, recurses := true, plainKeys := false, apart := false }
def MultiOverSaid : Prop := multiOverRow.holds Try.pinned (OpenSpec.ofChange multiOverSpec)

/-- ITS FALSE NEIGHBOUR: 'it returns false'. Refute it at one input. -/
def multiOverWrong : ChangeSpec := { name := "multiOver", fn := fun _ => fun
  | [d1, d2, d3, d4] => { results := [.lit (.bool false)], args := [d1, d2, d3, d4] }
  | _ => none }
def MultiOverWrongFalsely : Prop := multiOverRow.holds Try.pinned (OpenSpec.ofChange multiOverWrong)

/-- 'petrellaw24.MultiPlays': WHATEVER THE INPUT: true; the input reads as it did. -/
def multiPlaysSpec : ChangeSpec := { name := "multiPlays", fn := fun _ => fun
  | [d1, d2] => { results := [.lit (.bool true)], args := [d1, d2] }
  | _ => none }
def multiPlaysRow : OpenClaim := { program := "ytgpimeobkacniaa", sum := "7bdd47668d90f0af16a465c08e522e31b42fab83bf9063b78b8cdaa877f8a673", func := "petrel/petrellaw24.MultiPlays", spec := "multiPlays", inPlace := ["internal/bytealg.Compare"], unfollowed := true, recurses := true, plainKeys := false, apart := false }
def MultiPlaysSaid : Prop := multiPlaysRow.holds Try.pinned (OpenSpec.ofChange multiPlaysSpec)

/-- ITS FALSE NEIGHBOUR: 'it returns false'. Refute it at one input. -/
def multiPlaysWrong : ChangeSpec := { name := "multiPlays", fn := fun _ => fun
  | [d1, d2] => { results := [.lit (.bool false)], args := [d1, d2] }
  | _ => none }
def MultiPlaysWrongFalsely : Prop := multiPlaysRow.holds Try.pinned (OpenSpec.ofChange multiPlaysWrong)

/-- 'petrellaw24.MultiZero': WHATEVER THE INPUT: true; the input reads as it did. -/
def multiZeroSpec : ChangeSpec := { name := "multiZero", fn := fun _ => fun
  | [d1, d2] => { results := [.lit (.bool true)], args := [d1, d2] }
  | _ => none }
def multiZeroRow : OpenClaim := { program := "ytgpimeobkacniaa", sum := "7bdd47668d90f0af16a465c08e522e31b42fab83bf9063b78b8cdaa877f8a673", func := "petrel/petrellaw24.MultiZero", spec := "multiZero", inPlace := ["internal/bytealg.Compare"], unfollowed := true, recurses := true, plainKeys := false, apart := false }
def MultiZeroSaid : Prop := multiZeroRow.holds Try.pinned (OpenSpec.ofChange multiZeroSpec)

/-- ITS FALSE NEIGHBOUR: 'it returns false'. Refute it at one input. -/
def multiZeroWrong : ChangeSpec := { name := "multiZero", fn := fun _ => fun
  | [d1, d2] => { results := [.lit (.bool false)], args := [d1, d2] }
  | _ => none }
def MultiZeroWrongFalsely : Prop := multiZeroRow.holds Try.pinned (OpenSpec.ofChange multiZeroWrong)

/-- 'petrellaw25.SeqPlays': WHATEVER THE INPUT: true; the input reads as it did. -/
def seqPlaysSpec : ChangeSpec := { name := "seqPlays", fn := fun _ => fun
  | [d] => { results := [.lit (.bool true)], args := [d] }
  | _ => none }
def seqPlaysRow : OpenClaim := { program := "ytgpimeobkacniaa", sum := "7bdd47668d90f0af16a465c08e522e31b42fab83bf9063b78b8cdaa877f8a673", func := "petrel/petrellaw25.SeqPlays", spec := "seqPlays", inPlace := ["internal/bytealg.Compare"], unfollowed := true, recurses := true, plainKeys := false, apart := false }
def SeqPlaysSaid : Prop := seqPlaysRow.holds Try.pinned (OpenSpec.ofChange seqPlaysSpec)

/-- ITS FALSE NEIGHBOUR: 'it returns false'. Refute it at one input. -/
def seqPlaysWrong : ChangeSpec := { name := "seqPlays", fn := fun _ => fun
  | [d] => { results := [.lit (.bool false)], args := [d] }
  | _ => none }
def SeqPlaysWrongFalsely : Prop := seqPlaysRow.holds Try.pinned (OpenSpec.ofChange seqPlaysWrong)

/-- 'petrellaw24.MultiOrder': WHATEVER THE INPUT: true; the input reads as it did. -/
def multiOrderSpec : ChangeSpec := { name := "multiOrder", fn := fun _ => fun
  | [d1, d2, d3] => { results := [.lit (.bool true)], args := [d1, d2, d3] }
  | _ => none }
def multiOrderRow : OpenClaim := { program := "ytgpimeobkacniaa", sum := "7bdd47668d90f0af16a465c08e522e31b42fab83bf9063b78b8cdaa877f8a673", func := "petrel/petrellaw24.MultiOrder", spec := "multiOrder", inPlace := ["internal/bytealg.Compare"], unfollowed := true, recurses := true, plainKeys := false, apart := false }
def MultiOrderSaid : Prop := multiOrderRow.holds Try.pinned (OpenSpec.ofChange multiOrderSpec)

/-- ITS FALSE NEIGHBOUR: 'it returns false'. Refute it at one input. -/
def multiOrderWrong : ChangeSpec := { name := "multiOrder", fn := fun _ => fun
  | [d1, d2, d3] => { results := [.lit (.bool false)], args := [d1, d2, d3] }
  | _ => none }
def MultiOrderWrongFalsely : Prop := multiOrderRow.holds Try.pinned (OpenSpec.ofChange multiOrderWrong)

/-- 'petrellaw25.SeqLoads': WHATEVER THE INPUT: true; the input reads as it did. -/
def seqLoadsSpec : ChangeSpec := { name := "seqLoads", fn := fun _ => fun
  | [d] => { results := [.lit (.bool true)], args := [d] }
  | _ => none }
def seqLoadsRow : OpenClaim := { program := "ytgpimeobkacniaa", sum := "7bdd47668d90f0af16a465c08e522e31b42fab83bf9063b78b8cdaa877f8a673", func := "petrel/petrellaw25.SeqLoads", spec := "seqLoads", inPlace := ["internal/bytealg.Compare"], unfollowed := true, recurses := true, plainKeys := false, apart := false }
def SeqLoadsSaid : Prop := seqLoadsRow.holds Try.pinned (OpenSpec.ofChange seqLoadsSpec)

/-- ITS FALSE NEIGHBOUR: 'it returns false'. Refute it at one input. -/
def seqLoadsWrong : ChangeSpec := { name := "seqLoads", fn := fun _ => fun
  | [d] => { results := [.lit (.bool false)], args := [d] }
  | _ => none }
def SeqLoadsWrongFalsely : Prop := seqLoadsRow.holds Try.pinned (OpenSpec.ofChange seqLoadsWrong)

/-- 'petrellaw25.SeqOrder': WHATEVER THE INPUT: true; the input reads as it did. -/
def seqOrderSpec : ChangeSpec := { name := "seqOrder", fn := fun _ => fun
  | [d1, d2, d3] => { results := [.lit (.bool true)], args := [d1, d2, d3] }
  | _ => none }
def seqOrderRow : OpenClaim := { program := "ytgpimeobkacniaa", sum := "7bdd47668d90f0af16a465c08e522e31b42fab83bf9063b78b8cdaa877f8a673", func := "petrel/petrellaw25.SeqOrder", spec := "seqOrder", inPlace := ["internal/bytealg.Compare"], unfollowed := true, recurses := true, plainKeys := false, apart := false }
def SeqOrderSaid : Prop := seqOrderRow.holds Try.pinned (OpenSpec.ofChange seqOrderSpec)

/-- ITS FALSE NEIGHBOUR: 'it returns false'. Refute it at one input. -/
def seqOrderWrong : ChangeSpec := { name := "seqOrder", fn := fun _ => fun
  | [d1, d2, d3] => { results := [.lit (.bool false)], args := [d1, d2, d3] }
  | _ => none }
def SeqOrderWrongFalsely : Prop := seqOrderRow.holds Try.pinned (OpenSpec.ofChange seqOrderWrong)

/- THE SECOND FORM. 'bulk': how many values and letters a reading holds, each counted each time it is reached (what is shared counts as often as it is met; a slice's spare places count too). A statement '..UptoSaid' is the law's where the arguments, and the package variables that the reading takes, are together of bulk at most 1048576: NARROWER than '..Said'. Prove '..Said' where nothing that the law and all that it calls make is longer than what came in: it says more and counts as full. Else prove '..UptoSaid'. A law counts once. -/
mutual
def uptoBulk {H : Type} : DataW H → Nat
  | .lit (.string bytes) => bytes.length + 1
  | .lit _ => 1
  | .nil => 1
  | .ptr d => uptoBulk d + 1
  | .slice elems spare => uptoBulkAll elems + uptoBulkAll spare + 1
  | .agg parts => uptoBulkAll parts + 1
  | .iface _ d => uptoBulk d + 1
  | .map entries => uptoBulkEntries entries + 1
  | .held _ => 1
def uptoBulkAll {H : Type} : List (DataW H) → Nat
  | [] => 0
  | d :: r => uptoBulk d + uptoBulkAll r
def uptoBulkEntries {H : Type} : List (Lit × DataW H) → Nat
  | [] => 0
  | x :: r => uptoBulkEntry x + uptoBulkEntries r
def uptoBulkEntry {H : Type} : Lit × DataW H → Nat
  | (.string bytes, d) => bytes.length + uptoBulk d + 1
  | (_, d) => uptoBulk d + 1
 end
def uptoSmall : (H : Type) → List (DataW H) → Bool := fun _ ds => decide (uptoBulkAll ds ≤ 1048576)
def OpenSpec.upto (s : _root_.Go.ChangeSpec) : _root_.Go.OpenSpec := { _root_.Go.OpenSpec.ofChange s with cond := some uptoSmall }

/-- 'petrellaw25.SeqBehind', WHERE WHAT IT READS IS OF BULK AT MOST 1048576: true; the input reads as it did. -/
def seqBehindUptoRow : OpenClaim := { program := "ytgpimeobkacniaa", sum := "7bdd47668d90f0af16a465c08e522e31b42fab83bf9063b78b8cdaa877f8a673", func := "petrel/petrellaw25.SeqBehind", spec := "seqBehind", inPlace := ["internal/bytealg.Compare"], unfollowed := true, recurses := true, plainKeys := false, apart := false, narrowed := true }
def SeqBehindUptoSaid : Prop := seqBehindUptoRow.holds Try.pinned (OpenSpec.upto seqBehindSpec)

/-- 'petrellaw24.MultiOver', WHERE WHAT IT READS IS OF BULK AT MOST 1048576: true; the input reads as it did. -/
def multiOverUptoRow : OpenClaim := { program := "ytgpimeobkacniaa", sum := "7bdd47668d90f0af16a465c08e522e31b42fab83bf9063b78b8cdaa877f8a673", func := "petrel/petrellaw24.MultiOver", spec := "multiOver", inPlace := ["internal/bytealg.Compare"], unfollowed := true, recurses := true, plainKeys := false, apart := false, narrowed := true }
def MultiOverUptoSaid : Prop := multiOverUptoRow.holds Try.pinned (OpenSpec.upto multiOverSpec)

/-- 'petrellaw24.MultiPlays', WHERE WHAT IT READS IS OF BULK AT MOST 1048576: true; the input reads as it did. -/
def multiPlaysUptoRow : OpenClaim := { program := "ytgpimeobkacniaa", sum := "7bdd47668d90f0af16a465c08e522e31b42fab83bf9063b78b8cdaa877f8a673", func := "petrel/petrellaw24.MultiPlays", spec := "multiPlays", inPlace := ["internal/bytealg.Compare"], unfollowed := true, recurses := true, plainKeys := false, apart := false, narrowed := true }
def MultiPlaysUptoSaid : Prop := multiPlaysUptoRow.holds Try.pinned (OpenSpec.upto multiPlaysSpec)

/-- 'petrellaw24.MultiZero', WHERE WHAT IT READS IS OF BULK AT MOST 1048576: true; the input reads as it did. -/
def multiZeroUptoRow : OpenClaim := { program := "ytgpimeobkacniaa", sum := "7bdd47668d90f0af16a465c08e522e31b42fab83bf9063b78b8cdaa877f8a673", func := "petrel/petrellaw24.MultiZero", spec := "multiZero", inPlace := ["internal/bytealg.Compare"], unfollowed := true, recurses := true, plainKeys := false, apart := false, narrowed := true }
def MultiZeroUptoSaid : Prop := multiZeroUptoRow.holds Try.pinned (OpenSpec.upto multiZeroSpec)

/-- 'petrellaw25.SeqPlays', WHERE WHAT IT READS IS OF BULK AT MOST 1048576: true; the input reads as it did. -/
def seqPlaysUptoRow : OpenClaim := { program := "ytgpimeobkacniaa", sum := "7bdd47668d90f0af16a465c08e522e31b42fab83bf9063b78b8cdaa877f8a673", func := "petrel/petrellaw25.SeqPlays", spec := "seqPlays", inPlace := ["internal/bytealg.Compare"], unfollowed := true, recurses := true, plainKeys := false, apart := false, narrowed := true }
def SeqPlaysUptoSaid : Prop := seqPlaysUptoRow.holds Try.pinned (OpenSpec.upto seqPlaysSpec)

/-- 'petrellaw24.MultiOrder', WHERE WHAT IT READS IS OF BULK AT MOST 1048576: true; the input reads as it did. -/
def multiOrderUptoRow : OpenClaim := { program := "ytgpimeobkacniaa", sum := "7bdd47668d90f0af16a465c08e522e31b42fab83bf9063b78b8cdaa877f8a673", func := "petrel/petrellaw24.MultiOrder", spec := "multiOrder", inPlace := ["internal/bytealg.Compare"], unfollowed := true, recurses := true, plainKeys := false, apart := false, narrowed := true }
def MultiOrderUptoSaid : Prop := multiOrderUptoRow.holds Try.pinned (OpenSpec.upto multiOrderSpec)

/-- 'petrellaw25.SeqLoads', WHERE WHAT IT READS IS OF BULK AT MOST 1048576: true; the input reads as it did. -/
def seqLoadsUptoRow : OpenClaim := { program := "ytgpimeobkacniaa", sum := "7bdd47668d90f0af16a465c08e522e31b42fab83bf9063b78b8cdaa877f8a673", func := "petrel/petrellaw25.SeqLoads", spec := "seqLoads", inPlace := ["internal/bytealg.Compare"], unfollowed := true, recurses := true, plainKeys := false, apart := false, narrowed := true }
def SeqLoadsUptoSaid : Prop := seqLoadsUptoRow.holds Try.pinned (OpenSpec.upto seqLoadsSpec)

/-- 'petrellaw25.SeqOrder', WHERE WHAT IT READS IS OF BULK AT MOST 1048576: true; the input reads as it did. -/
def seqOrderUptoRow : OpenClaim := { program := "ytgpimeobkacniaa", sum := "7bdd47668d90f0af16a465c08e522e31b42fab83bf9063b78b8cdaa877f8a673", func := "petrel/petrellaw25.SeqOrder", spec := "seqOrder", inPlace := ["internal/bytealg.Compare"], unfollowed := true, recurses := true, plainKeys := false, apart := false, narrowed := true }
def SeqOrderUptoSaid : Prop := seqOrderUptoRow.holds Try.pinned (OpenSpec.upto seqOrderSpec)

end Rows
end Go.Proofs.Ytgpimeobkacniaa
