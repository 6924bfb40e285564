/-
  Contracts of the writer's and the reader's small functions. Contracts of the writer's methods, whatever the arguments. Contracts of New, Raw, Text, Done; of a writer that nobody made. The writer that a function has made: one bundle.
-/
import Derived.Test.YtgllkfolckbdhaaBase
import Derived.Test.YtgllkfolckbdhaaRows
import Derived.BigQuiet
import Derived.StillTailTactics
import Derived.ChangeAlike
import Derived.RegionTactic
import Derived.Defers
import Derived.Test.YtgllkfolckbdhaaText
import Derived.Deep.AppendLies
import Derived.Lib.BufferRead
set_option linter.unusedVariables false
set_option linter.unusedSimpArgs false

namespace Go.Proofs.Ytgllkfolckbdhaa
open Go.RowKit
namespace Oct

/-- How many bits. -/
def nbits (k : Int) : Int := if k = 4 then 32 else if k = 2 then 16 else if k = 1 then 8 else 0

end Oct
end Go.Proofs.Ytgllkfolckbdhaa

namespace Go.Proofs.Ytgllkfolckbdhaa
open Go.RowKit
namespace Oct
theorem infoU8 : (Try.prog.info? 5).map (fun i => (i.zero, i.size, i.bytes)) = some (some (.int .u8 0), 1, 1) := by kernel_rfl
/-- A byte as a value. -/
def bv (c : UInt8) : Value := .int .u8 (c.toNat : Int)

/-- The m lowest bytes of n, the highest first. -/
def be : Nat → Int → List UInt8
  | 0, _ => []
  | m + 1, n => be m (n / 256) ++ [UInt8.ofNat (n % 256).toNat]

theorem slU8 : SlT Try.prog 90 5 (.int .u8 0) 1 1 := SlT.mk' Try.underlying90 infoU8 rfl (by omega)

theorem byte_val (x : Int) : Value.int .u8 (IntKind.u8.wrap x) = bv (UInt8.ofNat (x % 256).toNat) := by
  have : (UInt8.ofNat (x % 256).toNat).toNat = (x % 256).toNat := by
    rw [UInt8.toNat_ofNat']; omega
  rw [bv, this, IntKind.wrap_u8']
  congr 1; omega

/-- What 'Num' leaves of the blocks. -/
def After (w w' : World) (b : Nat) (sv sv' : Value) : Prop := Keep (fun k => k = b ∨ sv.ownBlock = some k) w w' ∧ (∀ k, sv'.ownBlock = some k → sv.ownBlock = some k ∨ w.heap.size ≤ k)

end Oct
end Go.Proofs.Ytgllkfolckbdhaa


namespace Go.Proofs.Ytgllkfolckbdhaa
open Go.RowKit
namespace Oct

theorem After.refl (w : World) (b : Nat) (sv : Value) : After w w b sv sv := ⟨Keep.refl _ _, fun _ h => .inl h⟩
theorem After.trans {w w1 w2 : World} {b : Nat} {s s1 s2 : Value} (h : After w w1 b s s1) (k : After w1 w2 b s1 s2) : After w w2 b s s2 :=
  ⟨h.1.trans' k.1 (fun _ _ h => h) (fun x hx hs => by
    rcases hs with hs | hs
    · exact .inl hs
    · rcases h.2 x hs with e | e
      · exact .inr e
      · omega), fun x hx => by
    rcases k.2 x hx with e | e
    · exact h.2 x e
    · exact .inr (Nat.le_trans h.1.size e)⟩

/-- What 'Num' makes of what is written, and the error. -/
def wnum (s : List UInt8 × Int) (n k : Int) : List UInt8 × Int :=
  if s.2 ≠ 0 then s else if nbits k = 0 then (s.1, 1) else if n < 0 ∨ 256 ^ (nbits k / 8).toNat ≤ n then (s.1, 5) else (s.1 ++ be (nbits k / 8).toNat n, 0)

end Oct
end Go.Proofs.Ytgllkfolckbdhaa


namespace Go.Proofs.Ytgllkfolckbdhaa
open Go.RowKit
namespace Oct

/-- What 'Raw' and 'Text' make of it. -/
def wraw (s : List UInt8 × Int) (x : ByteArray) : List UInt8 × Int := if s.2 ≠ 0 then s else (s.1 ++ x.data.toList, 0)
def wtext (s : List UInt8 × Int) (x : ByteArray) : List UInt8 × Int := if s.2 ≠ 0 then s else if 65535 < x.size then (s.1, 3) else (s.1 ++ be 2 x.size ++ x.data.toList, 0)

theorem byteCells_bv (s : ByteArray) : byteCells s = s.data.toList.map bv := rfl

/-- The string of a row of bytes. -/
theorem own_string (w : World) (bs : List UInt8) (sv : Value) (h : w.ownsRow 0 5 1 sv bs.length (bs.map bv)) : (convert 90 9 sv).run Try.prog w = .ok (.string ⟨bs.toArray⟩) w := by
  rcases h.2 with ⟨rfl, h0⟩ | ⟨g, cap, cur, rfl, _, hg, _, _, _, htk⟩
  · have : bs = [] := List.eq_nil_of_length_eq_zero h0
    subst this
    exact Lib.run_convert_nil_bytes w _ _ _ 0 Try.underlying90 Try.underlying5 Try.underlying9
  · refine run_convert_bytes_back w _ _ 5 _ cap bs Try.underlying90 Try.underlying5 Try.underlying9 ?_
    exact Lib.bytes_of_row hg (by rw [Nat.mul_one] at htk; exact htk)

end Oct
end Go.Proofs.Ytgllkfolckbdhaa


namespace Go.Proofs.Ytgllkfolckbdhaa
open Go.RowKit
namespace OctW
open Oct
end OctW
end Go.Proofs.Ytgllkfolckbdhaa
