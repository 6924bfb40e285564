/-
  The document's Behind. The document's Order, Ids, List. seq.ids, seq.deleted: the keys of a map, rising.
-/
import Derived.Test.YtgpimeobkacniaaGreatSqZ
import Derived.Test.YtgpimeobkacniaaGreatSqB
import Derived.Maps.RangeWalk
set_option linter.unusedVariables false
set_option linter.unusedSimpArgs false

namespace Go.Proofs.YtgpimeobkacniaaGreat
open Go.RowKit
namespace Sq
open Oct Ids Mp
open Mem (M It blk ids rows)
end Sq
end Go.Proofs.YtgpimeobkacniaaGreat


namespace Go.Proofs.YtgpimeobkacniaaGreat
open Go.RowKit
namespace Sq
open Oct Ids Mp
open Mem (M It blk ids rows)
def lnv : Value → Nat
  | .slice _ n _ => n
  | _ => 0
theorem M.newr {F : Nat → Prop} {w0 w w' : World} {it : List It} (h : M F w0 w it) {α : Type} {T : TypeId} {n : Nat} {enc : α → List Value} {v : Value} {L : List α} (m : St.New T n enc w w' v L) : M F w0 w' (it ++ [rows T n enc v L]) :=
  h.add (x := rows T n enc v L) m.2.1 m.1 (fun k hk => ⟨m.2.2 k hk, m.1.lt hk⟩)
/-- What the document's Ids comes to. -/
structure XIdsPost (w : World) (l : List Wd) (e : Ending) (w' : World) : Prop where
  ex : ∃ a c, e = .returned (.slice a l.length c) ∧ At w' a l.length l ∧ Keep (fun _ => False) w w'
end Sq
end Go.Proofs.YtgpimeobkacniaaGreat


namespace Go.Proofs.YtgpimeobkacniaaGreat
open Go.RowKit
namespace Sq
open Oct Ids Mp
open Mem (M It blk ids rows)
theorem own_idat {w : World} {a : Option Addr} {n c : Nat} {els : List Wd} (h : Ids.Own w (.slice a n c) els) : At w a n els := by
  obtain ⟨a', c', e, h1, _⟩ := h.at
  cases e
  exact h1
theorem it_key {w : World} {r b : Nat} {D todo : List (Wd × Value)} {cur : Option (Wd × Value)} (i : Iter okI idv w r b D todo cur) {dn : List Wd} {l1 l2 : List (Wd × Value)} {p : Wd × Value} (hP : (dn ++ (l1 ++ p :: l2).map (·.1)).Perm (D.map (·.1))) : p.1.length = 32 := by
  exact i.is.ok _ (hP.mem_iff.1 (by simp))
end Sq
end Go.Proofs.YtgpimeobkacniaaGreat
