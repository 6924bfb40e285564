/-
  ident.Set's sort: slices.SortFunc at ids, by ident.Compare. ident.Set: a row of one's own that holds the set.
-/
import Derived.Test.YtfoplimdbapdfaaDoorGSr
import Derived.Test.YtfoplimdbapdfaaDoorGIl
import Derived.Shelf.SlSortCmp.NoneTotal
set_option linter.unusedVariables false
set_option linter.unusedSimpArgs false

namespace Go.Proofs.YtfoplimdbapdfaaDoor
open Go.RowKit

namespace Ids
open Oct
theorem cmpLays (blk off size : Nat) (w : World) : Go.Proofs.CmpLays Tryd.prog 61 #[] enc 32 cf blk off size w :=
  fun _ _ _ _ x y => (compare_any _ x.1 y.1 x.2 y.2).mono fun _ _ h => h
end Ids
end Go.Proofs.YtfoplimdbapdfaaDoor


namespace Go.Proofs.YtfoplimdbapdfaaDoor
open Go.RowKit
namespace Ids
open Oct
theorem Own.form {w : World} {v : Value} {els : List (List UInt8)} (h : Own w v els) : (v = .slice none 0 0 ∧ els = []) ∨ ∃ g c, v = .slice (some ⟨g, 0, none⟩) els.length c := by
  rcases h.own.2 with ⟨rfl, h0⟩ | ⟨g, cap, cur, rfl, _⟩
  · exact .inl ⟨rfl, List.eq_nil_of_length_eq_zero h0⟩
  · exact .inr ⟨g, cap, rfl⟩
end Ids
end Go.Proofs.YtfoplimdbapdfaaDoor
