/-
  NARROWER THAN 'FOR EVERY INPUT', by the rows' own cells (each row's printed sentence says how): HeaderOrders: laid · HeaderPuts: laid · HeaderReads: laid · HeaderBack: laid · PenBound: laid · PenZero: laid.
  DERIVED. THE GIVEN ROWS OF THIS SEAT. 6 by the template 'for every input the law returns true; each argument reads behind the call as it read before'; 0 by the template 'total and deterministic' (their statements: YthdjbpimjbkajaaDoorTotals.lean).
  GIVEN WITH THE SEED: the statements are not yours to turn. If you find one false, say at which input.
  Laid BY PROGRAM, IN A SANDBOX (cutbox-rows.mjs): the forced cells as the released guide's own fill.sh prints them over the translation 6d7db0a8f29af166… (all of the seat's roots in one cut). By AI agents, Wed Nov 11 2026. No macro, syntax, notation, axiom, sorry.
-/
import Derived.Test.YthdjbpimjbkajaaDoorChecked
import GoSem.Claim
import GoSem.ClaimJoined
import GoSem.ClaimMapViews
import Derived.JoinedTies
import Derived.KernelRfl
namespace Go.Proofs.YthdjbpimjbkajaaDoor
/- THE CELL 'sum', in the pinned program and in every row, IS THE sha256 OF THE DUMP (.gsa) THAT YthdjbpimjbkajaaDoorProg.lean LOADS. Nothing in Lean hashes anything: it is a label: what it is worth is what the hold of that sum in a sandbox is worth. -/
noncomputable def Tryd.pinned : Pinned := { name := "ythdjbpimjbkajaadoor", sum := "6d7db0a8f29af1661d66af81f69c9ef6e4fed63d5e5175e2497ca6c9cbed0a50", checked := Tryd.checked }
namespace Rows
def none {H : Type} : Left H := { results := [], args := [] }

/- WHAT THE LISTED PACKAGE-LEVEL VARIABLES READ AS WHEN THE CALL BEGINS. Each datum BY PROGRAM (the guide's laid-datum.mjs) off the statement by which the dump's own 'gosem.cut.vars' lays the variable. In a bare row this is a premise. The card (YthdjbpimjbkajaaDoorCards.lean) ties it to the program's text. -/
def laid_petrel_sha_first {H : Type} : DataW H := .agg [.lit (.int .u32 1779033703), .lit (.int .u32 3144134277), .lit (.int .u32 1013904242), .lit (.int .u32 2773480762), .lit (.int .u32 1359893119), .lit (.int .u32 2600822924), .lit (.int .u32 528734635), .lit (.int .u32 1541459225)]
def laid_petrel_sha_k {H : Type} : DataW H := .agg [.lit (.int .u32 1116352408), .lit (.int .u32 1899447441), .lit (.int .u32 3049323471), .lit (.int .u32 3921009573), .lit (.int .u32 961987163), .lit (.int .u32 1508970993), .lit (.int .u32 2453635748), .lit (.int .u32 2870763221), .lit (.int .u32 3624381080), .lit (.int .u32 310598401), .lit (.int .u32 607225278), .lit (.int .u32 1426881987), .lit (.int .u32 1925078388), .lit (.int .u32 2162078206), .lit (.int .u32 2614888103), .lit (.int .u32 3248222580), .lit (.int .u32 3835390401), .lit (.int .u32 4022224774), .lit (.int .u32 264347078), .lit (.int .u32 604807628), .lit (.int .u32 770255983), .lit (.int .u32 1249150122), .lit (.int .u32 1555081692), .lit (.int .u32 1996064986), .lit (.int .u32 2554220882), .lit (.int .u32 2821834349), .lit (.int .u32 2952996808), .lit (.int .u32 3210313671), .lit (.int .u32 3336571891), .lit (.int .u32 3584528711), .lit (.int .u32 113926993), .lit (.int .u32 338241895), .lit (.int .u32 666307205), .lit (.int .u32 773529912), .lit (.int .u32 1294757372), .lit (.int .u32 1396182291), .lit (.int .u32 1695183700), .lit (.int .u32 1986661051), .lit (.int .u32 2177026350), .lit (.int .u32 2456956037), .lit (.int .u32 2730485921), .lit (.int .u32 2820302411), .lit (.int .u32 3259730800), .lit (.int .u32 3345764771), .lit (.int .u32 3516065817), .lit (.int .u32 3600352804), .lit (.int .u32 4094571909), .lit (.int .u32 275423344), .lit (.int .u32 430227734), .lit (.int .u32 506948616), .lit (.int .u32 659060556), .lit (.int .u32 883997877), .lit (.int .u32 958139571), .lit (.int .u32 1322822218), .lit (.int .u32 1537002063), .lit (.int .u32 1747873779), .lit (.int .u32 1955562222), .lit (.int .u32 2024104815), .lit (.int .u32 2227730452), .lit (.int .u32 2361852424), .lit (.int .u32 2428436474), .lit (.int .u32 2756734187), .lit (.int .u32 3204031479), .lit (.int .u32 3329325298)]

/-- 'petrellaw08.HeaderOrders': WHATEVER THE INPUT: true; the input reads as it did. -/
def headerOrdersSpec : ChangeSpec := { name := "headerOrders", fn := fun _ => fun
  | [d1, d2, d3, d4, d5, d6] => { results := [.lit (.bool true)], args := [d1, d2, d3, d4, d5, d6] }
  | _ => none }
def headerOrdersRow : OpenClaim := { program := "ythdjbpimjbkajaadoor", sum := "6d7db0a8f29af1661d66af81f69c9ef6e4fed63d5e5175e2497ca6c9cbed0a50", func := "petrel/petrellaw08.HeaderOrders", spec := "headerOrders", inPlace := ["internal/bytealg.Compare"], unfollowed := true, recurses := true, named := ["petrel/sha.first", "petrel/sha.k"], apart := false, laid := [("petrel/sha.first", laid_petrel_sha_first), ("petrel/sha.k", laid_petrel_sha_k)] }
def HeaderOrdersSaid : Prop := headerOrdersRow.holds Tryd.pinned (OpenSpec.ofChange headerOrdersSpec)

/-- ITS FALSE NEIGHBOUR: 'it returns false'. Refute it at one input. -/
def headerOrdersWrong : ChangeSpec := { name := "headerOrders", fn := fun _ => fun
  | [d1, d2, d3, d4, d5, d6] => { results := [.lit (.bool false)], args := [d1, d2, d3, d4, d5, d6] }
  | _ => none }
def HeaderOrdersWrongFalsely : Prop := headerOrdersRow.holds Tryd.pinned (OpenSpec.ofChange headerOrdersWrong)

/-- 'petrellaw08.HeaderPuts': WHATEVER THE INPUT: true; the input reads as it did. -/
def headerPutsSpec : ChangeSpec := { name := "headerPuts", fn := fun _ => fun
  | [d1, d2] => { results := [.lit (.bool true)], args := [d1, d2] }
  | _ => none }
def headerPutsRow : OpenClaim := { program := "ythdjbpimjbkajaadoor", sum := "6d7db0a8f29af1661d66af81f69c9ef6e4fed63d5e5175e2497ca6c9cbed0a50", func := "petrel/petrellaw08.HeaderPuts", spec := "headerPuts", inPlace := ["internal/bytealg.Compare"], unfollowed := true, recurses := true, named := ["petrel/sha.first", "petrel/sha.k"], apart := false, laid := [("petrel/sha.first", laid_petrel_sha_first), ("petrel/sha.k", laid_petrel_sha_k)] }
def HeaderPutsSaid : Prop := headerPutsRow.holds Tryd.pinned (OpenSpec.ofChange headerPutsSpec)

/-- ITS FALSE NEIGHBOUR: 'it returns false'. Refute it at one input. -/
def headerPutsWrong : ChangeSpec := { name := "headerPuts", fn := fun _ => fun
  | [d1, d2] => { results := [.lit (.bool false)], args := [d1, d2] }
  | _ => none }
def HeaderPutsWrongFalsely : Prop := headerPutsRow.holds Tryd.pinned (OpenSpec.ofChange headerPutsWrong)

/-- 'petrellaw08.HeaderReads': WHATEVER THE INPUT: true; the input reads as it did. -/
def headerReadsSpec : ChangeSpec := { name := "headerReads", fn := fun _ => fun
  | [d] => { results := [.lit (.bool true)], args := [d] }
  | _ => none }
def headerReadsRow : OpenClaim := { program := "ythdjbpimjbkajaadoor", sum := "6d7db0a8f29af1661d66af81f69c9ef6e4fed63d5e5175e2497ca6c9cbed0a50", func := "petrel/petrellaw08.HeaderReads", spec := "headerReads", inPlace := ["internal/bytealg.Compare"], unfollowed := true, recurses := true, named := ["petrel/sha.first", "petrel/sha.k"], apart := false, laid := [("petrel/sha.first", laid_petrel_sha_first), ("petrel/sha.k", laid_petrel_sha_k)] }
def HeaderReadsSaid : Prop := headerReadsRow.holds Tryd.pinned (OpenSpec.ofChange headerReadsSpec)

/-- ITS FALSE NEIGHBOUR: 'it returns false'. Refute it at one input. -/
def headerReadsWrong : ChangeSpec := { name := "headerReads", fn := fun _ => fun
  | [d] => { results := [.lit (.bool false)], args := [d] }
  | _ => none }
def HeaderReadsWrongFalsely : Prop := headerReadsRow.holds Tryd.pinned (OpenSpec.ofChange headerReadsWrong)

/-- 'petrellaw08.HeaderBack': WHATEVER THE INPUT: true; the input reads as it did. -/
def headerBackSpec : ChangeSpec := { name := "headerBack", fn := fun _ => fun
  | [d1, d2] => { results := [.lit (.bool true)], args := [d1, d2] }
  | _ => none }
def headerBackRow : OpenClaim := { program := "ythdjbpimjbkajaadoor", sum := "6d7db0a8f29af1661d66af81f69c9ef6e4fed63d5e5175e2497ca6c9cbed0a50", func := "petrel/petrellaw08.HeaderBack", spec := "headerBack", inPlace := ["internal/bytealg.Compare"], unfollowed := true, recurses := true, named := ["petrel/sha.first", "petrel/sha.k"], apart := false, laid := [("petrel/sha.first", laid_petrel_sha_first), ("petrel/sha.k", laid_petrel_sha_k)] }
def HeaderBackSaid : Prop := headerBackRow.holds Tryd.pinned (OpenSpec.ofChange headerBackSpec)

/-- ITS FALSE NEIGHBOUR: 'it returns false'. Refute it at one input. -/
def headerBackWrong : ChangeSpec := { name := "headerBack", fn := fun _ => fun
  | [d1, d2] => { results := [.lit (.bool false)], args := [d1, d2] }
  | _ => none }
def HeaderBackWrongFalsely : Prop := headerBackRow.holds Tryd.pinned (OpenSpec.ofChange headerBackWrong)

/-- 'petrellaw18.PenBound': WHATEVER THE INPUT: true; the input reads as it did. -/
def penBoundSpec : ChangeSpec := { name := "penBound", fn := fun _ => fun
  | [d] => { results := [.lit (.bool true)], args := [d] }
  | _ => none }
def penBoundRow : OpenClaim := { program := "ythdjbpimjbkajaadoor", sum := "6d7db0a8f29af1661d66af81f69c9ef6e4fed63d5e5175e2497ca6c9cbed0a50", func := "petrel/petrellaw18.PenBound", spec := "penBound", inPlace := ["internal/bytealg.Compare"], unfollowed := true, recurses := true, named := ["petrel/sha.first", "petrel/sha.k"], apart := false, laid := [("petrel/sha.first", laid_petrel_sha_first), ("petrel/sha.k", laid_petrel_sha_k)] }
def PenBoundSaid : Prop := penBoundRow.holds Tryd.pinned (OpenSpec.ofChange penBoundSpec)

/-- ITS FALSE NEIGHBOUR: 'it returns false'. Refute it at one input. -/
def penBoundWrong : ChangeSpec := { name := "penBound", fn := fun _ => fun
  | [d] => { results := [.lit (.bool false)], args := [d] }
  | _ => none }
def PenBoundWrongFalsely : Prop := penBoundRow.holds Tryd.pinned (OpenSpec.ofChange penBoundWrong)

/-- 'petrellaw18.PenZero': WHATEVER THE INPUT: true; the input reads as it did. -/
def penZeroSpec : ChangeSpec := { name := "penZero", fn := fun _ => fun
  | [d1, d2] => { results := [.lit (.bool true)], args := [d1, d2] }
  | _ => none }
def penZeroRow : OpenClaim := { program := "ythdjbpimjbkajaadoor", sum := "6d7db0a8f29af1661d66af81f69c9ef6e4fed63d5e5175e2497ca6c9cbed0a50", func := "petrel/petrellaw18.PenZero", spec := "penZero", inPlace := ["internal/bytealg.Compare"], unfollowed := true, recurses := true, named := ["petrel/sha.first", "petrel/sha.k"], apart := false, laid := [("petrel/sha.first", laid_petrel_sha_first), ("petrel/sha.k", laid_petrel_sha_k)] }
def PenZeroSaid : Prop := penZeroRow.holds Tryd.pinned (OpenSpec.ofChange penZeroSpec)

/-- ITS FALSE NEIGHBOUR: 'it returns false'. Refute it at one input. -/
def penZeroWrong : ChangeSpec := { name := "penZero", fn := fun _ => fun
  | [d1, d2] => { results := [.lit (.bool false)], args := [d1, d2] }
  | _ => none }
def PenZeroWrongFalsely : Prop := penZeroRow.holds Tryd.pinned (OpenSpec.ofChange penZeroWrong)

/- THE SECOND FORM. 'bulk': how many values and letters a reading holds, each counted each time it is reached (what is shared counts as often as it is met; a slice's spare places count too). A statement '..UptoSaid' is the law's where the arguments, and the package variables that the reading takes, are together of bulk at most 1048576: NARROWER than '..Said'. Prove '..Said' where nothing that the law and all that it calls make is longer than what came in: it says more and counts as full. Else prove '..UptoSaid'. A law counts once. -/
mutual
def uptoBulk {H : Type} : DataW H → Nat
  | .lit (.string bytes) => bytes.length + 1
  | .lit _ => 1
  | .nil => 1
  | .ptr d => uptoBulk d + 1
  | .slice elems spare => uptoBulkAll elems + uptoBulkAll spare + 1
  | .agg parts => uptoBulkAll parts + 1
  | .iface _ d => uptoBulk d + 1
  | .map entries => uptoBulkEntries entries + 1
  | .held _ => 1
def uptoBulkAll {H : Type} : List (DataW H) → Nat
  | [] => 0
  | d :: r => uptoBulk d + uptoBulkAll r
def uptoBulkEntries {H : Type} : List (Lit × DataW H) → Nat
  | [] => 0
  | x :: r => uptoBulkEntry x + uptoBulkEntries r
def uptoBulkEntry {H : Type} : Lit × DataW H → Nat
  | (.string bytes, d) => bytes.length + uptoBulk d + 1
  | (_, d) => uptoBulk d + 1
 end
def uptoSmall : (H : Type) → List (DataW H) → Bool := fun _ ds => decide (uptoBulkAll ds ≤ 1048576)
def OpenSpec.upto (s : _root_.Go.ChangeSpec) : _root_.Go.OpenSpec := { _root_.Go.OpenSpec.ofChange s with cond := some uptoSmall }

/-- 'petrellaw08.HeaderOrders', WHERE WHAT IT READS IS OF BULK AT MOST 1048576: true; the input reads as it did. -/
def headerOrdersUptoRow : OpenClaim := { program := "ythdjbpimjbkajaadoor", sum := "6d7db0a8f29af1661d66af81f69c9ef6e4fed63d5e5175e2497ca6c9cbed0a50", func := "petrel/petrellaw08.HeaderOrders", spec := "headerOrders", inPlace := ["internal/bytealg.Compare"], unfollowed := true, recurses := true, named := ["petrel/sha.first", "petrel/sha.k"], apart := false, laid := [("petrel/sha.first", laid_petrel_sha_first), ("petrel/sha.k", laid_petrel_sha_k)], narrowed := true }
def HeaderOrdersUptoSaid : Prop := headerOrdersUptoRow.holds Tryd.pinned (OpenSpec.upto headerOrdersSpec)

/-- 'petrellaw08.HeaderPuts', WHERE WHAT IT READS IS OF BULK AT MOST 1048576: true; the input reads as it did. -/
def headerPutsUptoRow : OpenClaim := { program := "ythdjbpimjbkajaadoor", sum := "6d7db0a8f29af1661d66af81f69c9ef6e4fed63d5e5175e2497ca6c9cbed0a50", func := "petrel/petrellaw08.HeaderPuts", spec := "headerPuts", inPlace := ["internal/bytealg.Compare"], unfollowed := true, recurses := true, named := ["petrel/sha.first", "petrel/sha.k"], apart := false, laid := [("petrel/sha.first", laid_petrel_sha_first), ("petrel/sha.k", laid_petrel_sha_k)], narrowed := true }
def HeaderPutsUptoSaid : Prop := headerPutsUptoRow.holds Tryd.pinned (OpenSpec.upto headerPutsSpec)

/-- 'petrellaw08.HeaderReads', WHERE WHAT IT READS IS OF BULK AT MOST 1048576: true; the input reads as it did. -/
def headerReadsUptoRow : OpenClaim := { program := "ythdjbpimjbkajaadoor", sum := "6d7db0a8f29af1661d66af81f69c9ef6e4fed63d5e5175e2497ca6c9cbed0a50", func := "petrel/petrellaw08.HeaderReads", spec := "headerReads", inPlace := ["internal/bytealg.Compare"], unfollowed := true, recurses := true, named := ["petrel/sha.first", "petrel/sha.k"], apart := false, laid := [("petrel/sha.first", laid_petrel_sha_first), ("petrel/sha.k", laid_petrel_sha_k)], narrowed := true }
def HeaderReadsUptoSaid : Prop := headerReadsUptoRow.holds Tryd.pinned (OpenSpec.upto headerReadsSpec)

/-- 'petrellaw08.HeaderBack', WHERE WHAT IT READS IS OF BULK AT MOST 1048576: true; the input reads as it did. -/
def headerBackUptoRow : OpenClaim := { program := "ythdjbpimjbkajaadoor", sum := "6d7db0a8f29af1661d66af81f69c9ef6e4fed63d5e5175e2497ca6c9cbed0a50", func := "petrel/petrellaw08.HeaderBack", spec := "headerBack", inPlace := ["internal/bytealg.Compare"], unfollowed := true, recurses := true, named := ["petrel/sha.first", "petrel/sha.k"], apart := false, laid := [("petrel/sha.first", laid_petrel_sha_first), ("petrel/sha.k", laid_petrel_sha_k)], narrowed := true }
def HeaderBackUptoSaid : Prop := headerBackUptoRow.holds Tryd.pinned (OpenSpec.upto headerBackSpec)

/-- 'petrellaw18.PenBound', WHERE WHAT IT READS IS OF BULK AT MOST 1048576: true; the input reads as it did. -/
def penBoundUptoRow : OpenClaim := { program := "ythdjbpimjbkajaadoor", sum := "6d7db0a8f29af1661d66af81f69c9ef6e4fed63d5e5175e2497ca6c9cbed0a50", func := "petrel/petrellaw18.PenBound", spec := "penBound", inPlace := ["internal/bytealg.Compare"], unfollowed := true, recurses := true, named := ["petrel/sha.first", "petrel/sha.k"], apart := false, laid := [("petrel/sha.first", laid_petrel_sha_first), ("petrel/sha.k", laid_petrel_sha_k)], narrowed := true }
def PenBoundUptoSaid : Prop := penBoundUptoRow.holds Tryd.pinned (OpenSpec.upto penBoundSpec)

/-- 'petrellaw18.PenZero', WHERE WHAT IT READS IS OF BULK AT MOST 1048576: true; the input reads as it did. -/
def penZeroUptoRow : OpenClaim := { program := "ythdjbpimjbkajaadoor", sum := "6d7db0a8f29af1661d66af81f69c9ef6e4fed63d5e5175e2497ca6c9cbed0a50", func := "petrel/petrellaw18.PenZero", spec := "penZero", inPlace := ["internal/bytealg.Compare"], unfollowed := true, recurses := true, named := ["petrel/sha.first", "petrel/sha.k"], apart := false, laid := [("petrel/sha.first", laid_petrel_sha_first), ("petrel/sha.k", laid_petrel_sha_k)], narrowed := true }
def PenZeroUptoSaid : Prop := penZeroUptoRow.holds Tryd.pinned (OpenSpec.upto penZeroSpec)

end Rows
end Go.Proofs.YthdjbpimjbkajaaDoor
