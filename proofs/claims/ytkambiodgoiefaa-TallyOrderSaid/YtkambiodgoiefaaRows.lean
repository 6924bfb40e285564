/-
  No cell of these rows narrows 'for every input' (looked for: loops, veiled, ifaces, maps, wideKeys, modest, calm, conditions, laid).
  DERIVED. THE GIVEN ROWS OF THIS SEAT. 4 by the template 'for every input the law returns true; each argument reads behind the call as it read before'; 0 by the template 'total and deterministic' (their statements: YtkambiodgoiefaaTotals.lean).
  GIVEN WITH THE SEED: the statements are not yours to turn. If you find one false, say at which input.
  Laid BY PROGRAM, IN A SANDBOX (cutbox-rows.mjs): the forced cells as the released guide's own fill.sh prints them over the translation 6d3ce7d238a2727e… (all of the seat's roots in one cut). By AI agents, Wed Nov 11 2026. No macro, syntax, notation, axiom, sorry.
-/
import Derived.Test.YtkambiodgoiefaaChecked
import GoSem.Claim
import GoSem.ClaimJoined
import GoSem.ClaimMapViews
import Derived.JoinedTies
import Derived.KernelRfl
namespace Go.Proofs.Ytkambiodgoiefaa
/- THE CELL 'sum', in the pinned program and in every row, IS THE sha256 OF THE DUMP (.gsa) THAT YtkambiodgoiefaaProg.lean LOADS. Nothing in Lean hashes anything: it is a label: what it is worth is what the hold of that sum in a sandbox is worth. -/
noncomputable def Try.pinned : Pinned := { name := "ytkambiodgoiefaa", sum := "6d3ce7d238a2727efeb9630252172c8351411af21b77b98c33c798529f109af3", checked := Try.checked }
namespace Rows
def none {H : Type} : Left H := { results := [], args := [] }

/-- 'petrellaw21.TallyPlays': WHATEVER THE INPUT: true; the input reads as it did. -/
def tallyPlaysSpec : ChangeSpec := { name := "tallyPlays", fn := fun _ => fun
  | [d] => { results := [.lit (.bool true)], args := [d] }
  | _ => none }
def tallyPlaysRow : OpenClaim := { program := "ytkambiodgoiefaa", sum := "6d3ce7d238a2727efeb9630252172c8351411af21b77b98c33c798529f109af3", func := "petrel/petrellaw21.TallyPlays", spec := "tallyPlays", inPlace := ["sync/atomic.AddInt64", "sync/atomic.LoadInt64", "sync/atomic.StoreInt64"], apart := false }
def TallyPlaysSaid : Prop := tallyPlaysRow.holds Try.pinned (OpenSpec.ofChange tallyPlaysSpec)

/-- ITS FALSE NEIGHBOUR: 'it returns false'. Refute it at one input. -/
def tallyPlaysWrong : ChangeSpec := { name := "tallyPlays", fn := fun _ => fun
  | [d] => { results := [.lit (.bool false)], args := [d] }
  | _ => none }
def TallyPlaysWrongFalsely : Prop := tallyPlaysRow.holds Try.pinned (OpenSpec.ofChange tallyPlaysWrong)

/-- 'petrellaw21.TallyLoads': WHATEVER THE INPUT: true; the input reads as it did. -/
def tallyLoadsSpec : ChangeSpec := { name := "tallyLoads", fn := fun _ => fun
  | [d] => { results := [.lit (.bool true)], args := [d] }
  | _ => none }
def tallyLoadsRow : OpenClaim := { program := "ytkambiodgoiefaa", sum := "6d3ce7d238a2727efeb9630252172c8351411af21b77b98c33c798529f109af3", func := "petrel/petrellaw21.TallyLoads", spec := "tallyLoads", inPlace := ["sync/atomic.StoreInt64", "sync/atomic.LoadInt64", "sync/atomic.AddInt64"], apart := false }
def TallyLoadsSaid : Prop := tallyLoadsRow.holds Try.pinned (OpenSpec.ofChange tallyLoadsSpec)

/-- ITS FALSE NEIGHBOUR: 'it returns false'. Refute it at one input. -/
def tallyLoadsWrong : ChangeSpec := { name := "tallyLoads", fn := fun _ => fun
  | [d] => { results := [.lit (.bool false)], args := [d] }
  | _ => none }
def TallyLoadsWrongFalsely : Prop := tallyLoadsRow.holds Try.pinned (OpenSpec.ofChange tallyLoadsWrong)

/-- 'petrellaw21.TallyOrder': WHATEVER THE INPUT: true; the input reads as it did. -/
def tallyOrderSpec : ChangeSpec := { name := "tallyOrder", fn := fun _ => fun
  | [d1, d2] => { results := [.lit (.bool true)], args := [d1, d2] }
  | _ => none }
def tallyOrderRow : OpenClaim := { program := "ytkambiodgoiefaa", sum := "6d3ce7d238a2727efeb9630252172c8351411af21b77b98c33c798529f109af3", func := "petrel/petrellaw21.TallyOrder", spec := "tallyOrder", inPlace := ["sync/atomic.AddInt64", "sync/atomic.LoadInt64", "sync/atomic.StoreInt64"], apart := false }
def TallyOrderSaid : Prop := tallyOrderRow.holds Try.pinned (OpenSpec.ofChange tallyOrderSpec)

/-- ITS FALSE NEIGHBOUR: 'it returns false'. Refute it at one input. -/
def tallyOrderWrong : ChangeSpec := { name := "tallyOrder", fn := fun _ => fun
  | [d1, d2] => { results := [.lit (.bool false)], args := [d1, d2] }
  | _ => none }
def TallyOrderWrongFalsely : Prop := tallyOrderRow.holds Try.pinned (OpenSpec.ofChange tallyOrderWrong)

/-- 'petrellaw21.TallyZero': WHATEVER THE INPUT: true; the input reads as it did. -/
def tallyZeroSpec : ChangeSpec := { name := "tallyZero", fn := fun _ => fun
  | [d] => { results := [.lit (.bool true)], args := [d] }
  | _ => none }
def tallyZeroRow : OpenClaim := { program := "ytkambiodgoiefaa", sum := "6d3ce7d238a2727efeb9630252172c8351411af21b77b98c33c798529f109af3", func := "petrel/petrellaw21.TallyZero", spec := "tallyZero", inPlace := ["sync/atomic.AddInt64", "sync/atomic.LoadInt64", "sync/atomic.StoreInt64"], apart := false }
def TallyZeroSaid : Prop := tallyZeroRow.holds Try.pinned (OpenSpec.ofChange tallyZeroSpec)

/-- ITS FALSE NEIGHBOUR: 'it returns false'. Refute it at one input. -/
def tallyZeroWrong : ChangeSpec := { name := "tallyZero", fn := fun _ => fun
  | [d] => { results := [.lit (.bool false)], args := [d] }
  | _ => none }
def TallyZeroWrongFalsely : Prop := tallyZeroRow.holds Try.pinned (OpenSpec.ofChange tallyZeroWrong)

/- THE SECOND FORM. 'bulk': how many values and letters a reading holds, each counted each time it is reached (what is shared counts as often as it is met; a slice's spare places count too). A statement '..UptoSaid' is the law's where the arguments, and the package variables that the reading takes, are together of bulk at most 1048576: NARROWER than '..Said'. Prove '..Said' where nothing that the law and all that it calls make is longer than what came in: it says more and counts as full. Else prove '..UptoSaid'. A law counts once. -/
mutual
def uptoBulk {H : Type} : DataW H → Nat
  | .lit (.string bytes) => bytes.length + 1
  | .lit _ => 1
  | .nil => 1
  | .ptr d => uptoBulk d + 1
  | .slice elems spare => uptoBulkAll elems + uptoBulkAll spare + 1
  | .agg parts => uptoBulkAll parts + 1
  | .iface _ d => uptoBulk d + 1
  | .map entries => uptoBulkEntries entries + 1
  | .held _ => 1
def uptoBulkAll {H : Type} : List (DataW H) → Nat
  | [] => 0
  | d :: r => uptoBulk d + uptoBulkAll r
def uptoBulkEntries {H : Type} : List (Lit × DataW H) → Nat
  | [] => 0
  | x :: r => uptoBulkEntry x + uptoBulkEntries r
def uptoBulkEntry {H : Type} : Lit × DataW H → Nat
  | (.string bytes, d) => bytes.length + uptoBulk d + 1
  | (_, d) => uptoBulk d + 1
 end
def uptoSmall : (H : Type) → List (DataW H) → Bool := fun _ ds => decide (uptoBulkAll ds ≤ 1048576)
def OpenSpec.upto (s : _root_.Go.ChangeSpec) : _root_.Go.OpenSpec := { _root_.Go.OpenSpec.ofChange s with cond := some uptoSmall }

/-- 'petrellaw21.TallyPlays', WHERE WHAT IT READS IS OF BULK AT MOST 1048576: true; the input reads as it did. -/
def tallyPlaysUptoRow : OpenClaim := { program := "ytkambiodgoiefaa", sum := "6d3ce7d238a2727efeb9630252172c8351411af21b77b98c33c798529f109af3", func := "petrel/petrellaw21.TallyPlays", spec := "tallyPlays", inPlace := ["sync/atomic.AddInt64", "sync/atomic.LoadInt64", "sync/atomic.StoreInt64"], apart := false, narrowed := true }
def TallyPlaysUptoSaid : Prop := tallyPlaysUptoRow.holds Try.pinned (OpenSpec.upto tallyPlaysSpec)

/-- 'petrellaw21.TallyLoads', WHERE WHAT IT READS IS OF BULK AT MOST 1048576: true; the input reads as it did. -/
def tallyLoadsUptoRow : OpenClaim := { program := "ytkambiodgoiefaa", sum := "6d3ce7d238a2727efeb9630252172c8351411af21b77b98c33c798529f109af3", func := "petrel/petrellaw21.TallyLoads", spec := "tallyLoads", inPlace := ["sync/atomic.StoreInt64", "sync/atomic.LoadInt64", "sync/atomic.AddInt64"], apart := false, narrowed := true }
def TallyLoadsUptoSaid : Prop := tallyLoadsUptoRow.holds Try.pinned (OpenSpec.upto tallyLoadsSpec)

/-- 'petrellaw21.TallyOrder', WHERE WHAT IT READS IS OF BULK AT MOST 1048576: true; the input reads as it did. -/
def tallyOrderUptoRow : OpenClaim := { program := "ytkambiodgoiefaa", sum := "6d3ce7d238a2727efeb9630252172c8351411af21b77b98c33c798529f109af3", func := "petrel/petrellaw21.TallyOrder", spec := "tallyOrder", inPlace := ["sync/atomic.AddInt64", "sync/atomic.LoadInt64", "sync/atomic.StoreInt64"], apart := false, narrowed := true }
def TallyOrderUptoSaid : Prop := tallyOrderUptoRow.holds Try.pinned (OpenSpec.upto tallyOrderSpec)

/-- 'petrellaw21.TallyZero', WHERE WHAT IT READS IS OF BULK AT MOST 1048576: true; the input reads as it did. -/
def tallyZeroUptoRow : OpenClaim := { program := "ytkambiodgoiefaa", sum := "6d3ce7d238a2727efeb9630252172c8351411af21b77b98c33c798529f109af3", func := "petrel/petrellaw21.TallyZero", spec := "tallyZero", inPlace := ["sync/atomic.AddInt64", "sync/atomic.LoadInt64", "sync/atomic.StoreInt64"], apart := false, narrowed := true }
def TallyZeroUptoSaid : Prop := tallyZeroUptoRow.holds Try.pinned (OpenSpec.upto tallyZeroSpec)

end Rows
end Go.Proofs.Ytkambiodgoiefaa
