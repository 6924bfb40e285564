/-
  No cell of these rows narrows 'for every input' (looked for: loops, veiled, ifaces, maps, wideKeys, modest, calm, conditions, laid).
  DERIVED. THE GIVEN ROWS OF THIS SEAT. 9 by the template 'for every input the law returns true; each argument reads behind the call as it read before'; 0 by the template 'total and deterministic' (their statements: YtkoolpalhahigaaTotals.lean).
  GIVEN WITH THE SEED: the statements are not yours to turn. If you find one false, say at which input.
  Laid BY PROGRAM, IN A SANDBOX (cutbox-rows.mjs): the forced cells as the released guide's own fill.sh prints them over the translation 1c10848707b050ca… (all of the seat's roots in one cut). By AI agents, Wed Nov 11 2026. No macro, syntax, notation, axiom, sorry.
-/
import Derived.Test.YtkoolpalhahigaaChecked
import GoSem.Claim
import GoSem.ClaimJoined
import GoSem.ClaimMapViews
import Derived.JoinedTies
import Derived.KernelRfl
namespace Go.Proofs.Ytkoolpalhahigaa
/- THE CELL 'sum', in the pinned program and in every row, IS THE sha256 OF THE DUMP (.gsa) THAT YtkoolpalhahigaaProg.lean LOADS. Nothing in Lean hashes anything: it is a label: what it is worth is what the hold of that sum in a sandbox is worth. -/
noncomputable def Try.pinned : Pinned := { name := "ytkoolpalhahigaa", sum := "1c10848707b050ca5a9b811d02cd84a46dd8c3c63e62c9baa3499a5eeb5e61ef", checked := Try.checked }
namespace Rows
def none {H : Type} : Left H := { results := [], args := [] }

/-- 'petrellaw06.IdentSame': WHATEVER THE INPUT: true; the input reads as it did. -/
def identSameSpec : ChangeSpec := { name := "identSame", fn := fun _ => fun
  | [d1, d2] => { results := [.lit (.bool true)], args := [d1, d2] }
  | _ => none }
def identSameRow : OpenClaim := { program := "ytkoolpalhahigaa", sum := "1c10848707b050ca5a9b811d02cd84a46dd8c3c63e62c9baa3499a5eeb5e61ef", func := "petrel/petrellaw06.IdentSame", spec := "identSame", inPlace := ["internal/bytealg.Compare"], unfollowed := true, recurses := true, plainKeys := false, apart := false }
def IdentSameSaid : Prop := identSameRow.holds Try.pinned (OpenSpec.ofChange identSameSpec)

/-- ITS FALSE NEIGHBOUR: 'it returns false'. Refute it at one input. -/
def identSameWrong : ChangeSpec := { name := "identSame", fn := fun _ => fun
  | [d1, d2] => { results := [.lit (.bool false)], args := [d1, d2] }
  | _ => none }
def IdentSameWrongFalsely : Prop := identSameRow.holds Try.pinned (OpenSpec.ofChange identSameWrong)

/-- 'petrellaw06.IdentTexts': WHATEVER THE INPUT: true; the input reads as it did. -/
def identTextsSpec : ChangeSpec := { name := "identTexts", fn := fun _ => fun
  | [d1, d2, d3] => { results := [.lit (.bool true)], args := [d1, d2, d3] }
  | _ => none }
def identTextsRow : OpenClaim := { program := "ytkoolpalhahigaa", sum := "1c10848707b050ca5a9b811d02cd84a46dd8c3c63e62c9baa3499a5eeb5e61ef", func := "petrel/petrellaw06.IdentTexts", spec := "identTexts", inPlace := ["internal/bytealg.Compare"], unfollowed := true, recurses := true, plainKeys := false, apart := false }
def IdentTextsSaid : Prop := identTextsRow.holds Try.pinned (OpenSpec.ofChange identTextsSpec)

/-- ITS FALSE NEIGHBOUR: 'it returns false'. Refute it at one input. -/
def identTextsWrong : ChangeSpec := { name := "identTexts", fn := fun _ => fun
  | [d1, d2, d3] => { results := [.lit (.bool false)], args := [d1, d2, d3] }
  | _ => none }
def IdentTextsWrongFalsely : Prop := identTextsRow.holds Try.pinned (OpenSpec.ofChange identTextsWrong)

/-- 'petrellaw06.IdentOwn': WHATEVER THE INPUT: true; the input reads as it did. -/
def identOwnSpec : ChangeSpec := { name := "identOwn", fn := fun _ => fun
  | [d1, d2] => { results := [.lit (.bool true)], args := [d1, d2] }
  | _ => none }
def identOwnRow : OpenClaim := { program := "ytkoolpalhahigaa", sum := "1c10848707b050ca5a9b811d02cd84a46dd8c3c63e62c9baa3499a5eeb5e61ef", func := "petrel/petrellaw06.IdentOwn", spec := "identOwn", inPlace := ["internal/bytealg.Compare"], unfollowed := true, recurses := true, plainKeys := false, apart := false }
def IdentOwnSaid : Prop := identOwnRow.holds Try.pinned (OpenSpec.ofChange identOwnSpec)

/-- ITS FALSE NEIGHBOUR: 'it returns false'. Refute it at one input. -/
def identOwnWrong : ChangeSpec := { name := "identOwn", fn := fun _ => fun
  | [d1, d2] => { results := [.lit (.bool false)], args := [d1, d2] }
  | _ => none }
def IdentOwnWrongFalsely : Prop := identOwnRow.holds Try.pinned (OpenSpec.ofChange identOwnWrong)

/-- 'petrellaw06.IdentBack': WHATEVER THE INPUT: true; the input reads as it did. -/
def identBackSpec : ChangeSpec := { name := "identBack", fn := fun _ => fun
  | [d1, d2, d3] => { results := [.lit (.bool true)], args := [d1, d2, d3] }
  | _ => none }
def identBackRow : OpenClaim := { program := "ytkoolpalhahigaa", sum := "1c10848707b050ca5a9b811d02cd84a46dd8c3c63e62c9baa3499a5eeb5e61ef", func := "petrel/petrellaw06.IdentBack", spec := "identBack", inPlace := ["internal/bytealg.Compare"], unfollowed := true, recurses := true, plainKeys := false, apart := false }
def IdentBackSaid : Prop := identBackRow.holds Try.pinned (OpenSpec.ofChange identBackSpec)

/-- ITS FALSE NEIGHBOUR: 'it returns false'. Refute it at one input. -/
def identBackWrong : ChangeSpec := { name := "identBack", fn := fun _ => fun
  | [d1, d2, d3] => { results := [.lit (.bool false)], args := [d1, d2, d3] }
  | _ => none }
def IdentBackWrongFalsely : Prop := identBackRow.holds Try.pinned (OpenSpec.ofChange identBackWrong)

/-- 'petrellaw06.IdentSets': WHATEVER THE INPUT: true; the input reads as it did. -/
def identSetsSpec : ChangeSpec := { name := "identSets", fn := fun _ => fun
  | [d1, d2, d3] => { results := [.lit (.bool true)], args := [d1, d2, d3] }
  | _ => none }
def identSetsRow : OpenClaim := { program := "ytkoolpalhahigaa", sum := "1c10848707b050ca5a9b811d02cd84a46dd8c3c63e62c9baa3499a5eeb5e61ef", func := "petrel/petrellaw06.IdentSets", spec := "identSets", inPlace := ["internal/bytealg.Compare"], unfollowed := true, recurses := true, plainKeys := false, apart := false }
def IdentSetsSaid : Prop := identSetsRow.holds Try.pinned (OpenSpec.ofChange identSetsSpec)

/-- ITS FALSE NEIGHBOUR: 'it returns false'. Refute it at one input. -/
def identSetsWrong : ChangeSpec := { name := "identSets", fn := fun _ => fun
  | [d1, d2, d3] => { results := [.lit (.bool false)], args := [d1, d2, d3] }
  | _ => none }
def IdentSetsWrongFalsely : Prop := identSetsRow.holds Try.pinned (OpenSpec.ofChange identSetsWrong)

/-- 'petrellaw24.MultiOver': WHATEVER THE INPUT: true; the input reads as it did. -/
def multiOverSpec : ChangeSpec := { name := "multiOver", fn := fun _ => fun
  | [d1, d2, d3, d4] => { results := [.lit (.bool true)], args := [d1, d2, d3, d4] }
  | _ => none }
def multiOverRow : OpenClaim := { program := "ytkoolpalhahigaa", sum := "1c10848707b050ca5a9b811d02cd84a46dd8c3c63e62c9baa3499a5eeb5e61ef", func := "petrel/petrellaw24.MultiOver", spec := "multiOver", inPlace := ["internal/bytealg.Compare"], unfollowed := true, recurses := true, plainKeys := false, apart := false }
def MultiOverSaid : Prop := multiOverRow.holds Try.pinned (OpenSpec.ofChange multiOverSpec)

/-- ITS FALSE NEIGHBOUR: 'it returns false'. Refute it at one input. -/
def multiOverWrong : ChangeSpec := { name := "multiOver", fn := fun _ => fun
  | [d1, d2, d3, d4] => { results := [.lit (.bool false)], args := [d1, d2, d3, d4] }
  | _ => none }
def MultiOverWrongFalsely : Prop := multiOverRow.holds Try.pinned (OpenSpec.ofChange multiOverWrong)

/-- 'petrellaw24.MultiPlays': WHATEVER THE INPUT: true; the input reads as it did. -/
def multiPlaysSpec : ChangeSpec := { name := "multiPlays", fn := fun _ => fun
  | [d1, d2] => { results := [.lit (.bool true)], args := [d1, d2] }
  | _ => none }
def multiPlaysRow : OpenClaim := { program := "ytkoolpalhahigaa", sum := "1c10848707b050ca5a9b811d02cd84a46dd8c3c63e62c9baa3499a5eeb5e61ef", func := "petrel/petrellaw24.MultiPlays", spec := "multiPlays", inPlace := ["internal/bytealg.Compare"], unfollowed := true, recurses := true, plainKeys := false, apart := false }
def MultiPlaysSaid : Prop := multiPlaysRow.holds Try.pinned (OpenSpec.ofChange multiPlaysSpec)

/-- ITS FALSE NEIGHBOUR: 'it returns false'. Refute it at one input. -/
def multiPlaysWrong : ChangeSpec := { name := "multiPlays", fn := fun _ => fun
  | [d1, d2] => { results := [.lit (.bool false)], args := [d1, d2] }
  | _ => none }
def MultiPlaysWrongFalsely : Prop := multiPlaysRow.holds Try.pinned (OpenSpec.ofChange multiPlaysWrong)

/-- 'petrellaw24.MultiZero': WHATEVER THE INPUT: true; the input reads as it did. -/
def multiZeroSpec : ChangeSpec := { name := "multiZero", fn := fun _ => fun
  | [d1, d2] => { results := [.lit (.bool true)], args := [d1, d2] }
  | _ => none }
def multiZeroRow : OpenClaim := { program := "ytkoolpalhahigaa", sum := "1c10848707b050ca5a9b811d02cd84a46dd8c3c63e62c9baa3499a5eeb5e61ef", func := "petrel/petrellaw24.MultiZero", spec := "multiZero", inPlace := ["internal/bytealg.Compare"], unfollowed := true, recurses := true, plainKeys := false, apart := false }
def MultiZeroSaid : Prop := multiZeroRow.holds Try.pinned (OpenSpec.ofChange multiZeroSpec)

/-- ITS FALSE NEIGHBOUR: 'it returns false'. Refute it at one input. -/
def multiZeroWrong : ChangeSpec := { name := "multiZero", fn := fun _ => fun
  | [d1, d2] => { results := [.lit (.bool false)], args := [d1, d2] }
  | _ => none }
def MultiZeroWrongFalsely : Prop := multiZeroRow.holds Try.pinned (OpenSpec.ofChange multiZeroWrong)

/-- 'petrellaw24.MultiOrder': WHATEVER THE INPUT: true; the input reads as it did. -/
def multiOrderSpec : ChangeSpec := { name := "multiOrder", fn := fun _ => fun
  | [d1, d2, d3] => { results := [.lit (.bool true)], args := [d1, d2, d3] }
  | _ => none }
def multiOrderRow : OpenClaim := { program := "ytkoolpalhahigaa", sum := "1c10848707b050ca5a9b811d02cd84a46dd8c3c63e62c9baa3499a5eeb5e61ef", func := "petrel/petrellaw24.MultiOrder", spec := "multiOrder", inPlace := ["internal/bytealg.Compare"], unfollowed := true, recurses := true, plainKeys := false, apart := false }
def MultiOrderSaid : Prop := multiOrderRow.holds Try.pinned (OpenSpec.ofChange multiOrderSpec)

/-- ITS FALSE NEIGHBOUR: 'it returns false'. Refute it at one input. -/
def multiOrderWrong : ChangeSpec := { name := "multiOrder", fn := fun _ => fun
  | [d1, d2, d3] => { results := [.lit (.bool false)], args := [d1, d2, d3] }
  | _ => none }
def MultiOrderWrongFalsely : Prop := multiOrderRow.holds Try.pinned (OpenSpec.ofChange multiOrderWrong)

/- THE SECOND FORM. 'bulk': how many values and letters a reading holds, each counted each time it is reached (what is shared counts as often as it is met; a slice's spare places count too). A statement '..UptoSaid' is the law's where the arguments, and the package variables that the reading takes, are together of bulk at most 1048576: NARROWER than '..Said'. Prove '..Said' where nothing that the law and all that it calls make is longer than what came in: it says more and counts as full. Else prove '..UptoSaid'. A law counts once. -/
mutual
def uptoBulk {H : Type} : DataW H → Nat
  | .lit (.string bytes) => bytes.length + 1
  | .lit _ => 1
  | .nil => 1
  | .ptr d => uptoBulk d + 1
  | .slice elems spare => uptoBulkAll elems + uptoBulkAll spare + 1
  | .agg parts => uptoBulkAll parts + 1
  | .iface _ d => uptoBulk d + 1
  | .map entries => uptoBulkEntries entries + 1
  | .held _ => 1
def uptoBulkAll {H : Type} : List (DataW H) → Nat
  | [] => 0
  | d :: r => uptoBulk d + uptoBulkAll r
def uptoBulkEntries {H : Type} : List (Lit × DataW H) → Nat
  | [] => 0
  | x :: r => uptoBulkEntry x + uptoBulkEntries r
def uptoBulkEntry {H : Type} : Lit × DataW H → Nat
  | (.string bytes, d) => bytes.length + uptoBulk d + 1
  | (_, d) => uptoBulk d + 1
 end
def uptoSmall : (H : Type) → List (DataW H) → Bool := fun _ ds => decide (uptoBulkAll ds ≤ 1048576)
def OpenSpec.upto (s : _root_.Go.ChangeSpec) : _root_.Go.OpenSpec := { _root_.Go.OpenSpec.ofChange s with cond := some uptoSmall }

/-- 'petrellaw06.IdentSame', WHERE WHAT IT READS IS OF BULK AT MOST 1048576: true; the input reads as it did. -/
def identSameUptoRow : OpenClaim := { program := "ytkoolpalhahigaa", sum := "1c10848707b050ca5a9b811d02cd84a46dd8c3c63e62c9baa3499a5eeb5e61ef", func := "petrel/petrellaw06.IdentSame", spec := "identSame", inPlace := ["internal/bytealg.Compare"], unfollowed := true, recurses := true, plainKeys := false, apart := false, narrowed := true }
def IdentSameUptoSaid : Prop := identSameUptoRow.holds Try.pinned (OpenSpec.upto identSameSpec)

/-- 'petrellaw06.IdentTexts', WHERE WHAT IT READS IS OF BULK AT MOST 1048576: true; the input reads as it did. -/
def identTextsUptoRow : OpenClaim := { program := "ytkoolpalhahigaa", sum := "1c10848707b050ca5a9b811d02cd84a46dd8c3c63e62c9baa3499a5eeb5e61ef", func := "petrel/petrellaw06.IdentTexts", spec := "identTexts", inPlace := ["internal/bytealg.Compare"], unfollowed := true, recurses := true, plainKeys := false, apart := false, narrowed := true }
def IdentTextsUptoSaid : Prop := identTextsUptoRow.holds Try.pinned (OpenSpec.upto identTextsSpec)

/-- 'petrellaw06.IdentOwn', WHERE WHAT IT READS IS OF BULK AT MOST 1048576: true; the input reads as it did. -/
def identOwnUptoRow : OpenClaim := { program := "ytkoolpalhahigaa", sum := "1c10848707b050ca5a9b811d02cd84a46dd8c3c63e62c9baa3499a5eeb5e61ef", func := "petrel/petrellaw06.IdentOwn", spec := "identOwn", inPlace := ["internal/bytealg.Compare"], unfollowed := true, recurses := true, plainKeys := false, apart := false, narrowed := true }
def IdentOwnUptoSaid : Prop := identOwnUptoRow.holds Try.pinned (OpenSpec.upto identOwnSpec)

/-- 'petrellaw06.IdentBack', WHERE WHAT IT READS IS OF BULK AT MOST 1048576: true; the input reads as it did. -/
def identBackUptoRow : OpenClaim := { program := "ytkoolpalhahigaa", sum := "1c10848707b050ca5a9b811d02cd84a46dd8c3c63e62c9baa3499a5eeb5e61ef", func := "petrel/petrellaw06.IdentBack", spec := "identBack", inPlace := ["internal/bytealg.Compare"], unfollowed := true, recurses := true, plainKeys := false, apart := false, narrowed := true }
def IdentBackUptoSaid : Prop := identBackUptoRow.holds Try.pinned (OpenSpec.upto identBackSpec)

/-- 'petrellaw06.IdentSets', WHERE WHAT IT READS IS OF BULK AT MOST 1048576: true; the input reads as it did. -/
def identSetsUptoRow : OpenClaim := { program := "ytkoolpalhahigaa", sum := "1c10848707b050ca5a9b811d02cd84a46dd8c3c63e62c9baa3499a5eeb5e61ef", func := "petrel/petrellaw06.IdentSets", spec := "identSets", inPlace := ["internal/bytealg.Compare"], unfollowed := true, recurses := true, plainKeys := false, apart := false, narrowed := true }
def IdentSetsUptoSaid : Prop := identSetsUptoRow.holds Try.pinned (OpenSpec.upto identSetsSpec)

/-- 'petrellaw24.MultiOver', WHERE WHAT IT READS IS OF BULK AT MOST 1048576: true; the input reads as it did. -/
def multiOverUptoRow : OpenClaim := { program := "ytkoolpalhahigaa", sum := "1c10848707b050ca5a9b811d02cd84a46dd8c3c63e62c9baa3499a5eeb5e61ef", func := "petrel/petrellaw24.MultiOver", spec := "multiOver", inPlace := ["internal/bytealg.Compare"], unfollowed := true, recurses := true, plainKeys := false, apart := false, narrowed := true }
def MultiOverUptoSaid : Prop := multiOverUptoRow.holds Try.pinned (OpenSpec.upto multiOverSpec)

/-- 'petrellaw24.MultiPlays', WHERE WHAT IT READS IS OF BULK AT MOST 1048576: true; the input reads as it did. -/
def multiPlaysUptoRow : OpenClaim := { program := "ytkoolpalhahigaa", sum := "1c10848707b050ca5a9b811d02cd84a46dd8c3c63e62c9baa3499a5eeb5e61ef", func := "petrel/petrellaw24.MultiPlays", spec := "multiPlays", inPlace := ["internal/bytealg.Compare"], unfollowed := true, recurses := true, plainKeys := false, apart := false, narrowed := true }
def MultiPlaysUptoSaid : Prop := multiPlaysUptoRow.holds Try.pinned (OpenSpec.upto multiPlaysSpec)

/-- 'petrellaw24.MultiZero', WHERE WHAT IT READS IS OF BULK AT MOST 1048576: true; the input reads as it did. -/
def multiZeroUptoRow : OpenClaim := { program := "ytkoolpalhahigaa", sum := "1c10848707b050ca5a9b811d02cd84a46dd8c3c63e62c9baa3499a5eeb5e61ef", func := "petrel/petrellaw24.MultiZero", spec := "multiZero", inPlace := ["internal/bytealg.Compare"], unfollowed := true, recurses := true, plainKeys := false, apart := false, narrowed := true }
def MultiZeroUptoSaid : Prop := multiZeroUptoRow.holds Try.pinned (OpenSpec.upto multiZeroSpec)

/-- 'petrellaw24.MultiOrder', WHERE WHAT IT READS IS OF BULK AT MOST 1048576: true; the input reads as it did. -/
def multiOrderUptoRow : OpenClaim := { program := "ytkoolpalhahigaa", sum := "1c10848707b050ca5a9b811d02cd84a46dd8c3c63e62c9baa3499a5eeb5e61ef", func := "petrel/petrellaw24.MultiOrder", spec := "multiOrder", inPlace := ["internal/bytealg.Compare"], unfollowed := true, recurses := true, plainKeys := false, apart := false, narrowed := true }
def MultiOrderUptoSaid : Prop := multiOrderUptoRow.holds Try.pinned (OpenSpec.upto multiOrderSpec)

end Rows
end Go.Proofs.Ytkoolpalhahigaa
