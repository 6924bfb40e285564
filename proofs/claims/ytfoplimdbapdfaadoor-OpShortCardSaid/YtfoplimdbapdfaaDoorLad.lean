/-
  What the laid tables hold, out of the rows' condition.
-/
import Derived.Test.YtfoplimdbapdfaaDoorOx1
import Derived.Test.YtfoplimdbapdfaaDoorRows
import Derived.MakeChecks
import Derived.LaidMore
import Derived.OpenShut
import Derived.Lay
import Derived.ProofKit
set_option linter.unusedVariables false
set_option linter.unusedSimpArgs false
namespace Go.Proofs.YtfoplimdbapdfaaDoor
open Go.RowKit
namespace Lad
open Go.ChangeShapes Go.WideShapes Go.ChangeAt
/-- An array of whole numbers, as it is read: its cells. -/
theorem arr_cells {H : Type} {enc : TypeId × Value → H} {P : Program} {w : World} {base : Nat} {spare : TypeId → Bool} {held : Bool} {fuel : Nat} {t e : TypeId} {n : Nat} {k : IntKind} {cs : List Value} {vals : List Int} {q : List MemPlace} (ht : P.underlying t = some (.array n e)) (he : P.underlying e = some (.int k)) (hc : P.cellsOf e = 1)
    (h : DataW.trod enc P w base spare held fuel t cs = some (.agg (vals.map fun x => .lit (.int k x)), q)) (hn : vals.length = n) : ∀ (i : Nat) (x : Int), vals[i]? = some x → cs[i]? = some (Value.int k x) := by
  obtain ⟨xs, m, rfl, hx, hlen, hxn, hel⟩ := DataW.trod_array ht h
  intro i x hi
  have hin : i < n := by rw [← hn]; exact (List.getElem?_eq_some_iff.1 hi).1
  simp only [Prod.mk.injEq, DataW.agg.injEq] at hx
  obtain ⟨hx1, _⟩ := hx
  have h1 := hel i hin
  obtain ⟨y, hy⟩ : ∃ y, xs[i]? = some y := ⟨_, List.getElem?_eq_getElem (by rw [hxn]; exact hin)⟩
  rw [hy] at h1
  obtain ⟨z, e1, e2, _⟩ := DataW.trod_int he h1
  have h2 : (vals.map fun x => (DataW.lit (.int k x) : DataW H))[i]? = (xs.map (·.1))[i]? := by rw [hx1]
  rw [List.getElem?_map, List.getElem?_map, hi, hy, e2] at h2
  simp at h2
  subst h2
  rw [hc, Nat.mul_one] at e1
  have h3 : ((cs.drop i).take 1)[0]? = some (.int k x) := by rw [e1]; rfl
  rw [List.getElem?_take_of_lt (by omega), List.getElem?_drop] at h3
  simpa using h3
theorem tab_of {P : Program} {W : World} {name : String} {g : Nat} {cs : Array Value} (hg : P.globalNamed name = some g) (hv : W.var? P name = some cs) {L : List Value} (h : ∀ (i : Nat) (x : Value), L[i]? = some x → cs.toList[i]? = some x) (hne : L ≠ []) : g < W.heap.size ∧ W.rangeAt g 0 L := by
  have hr : W.rangeAt g 0 L := fun i x hi => by
    rw [Nat.zero_add, World.var?_cell hg hv i, ← Array.getElem?_toList]
    exact h i x hi
  refine ⟨?_, hr⟩
  obtain ⟨x, hx⟩ : ∃ x, L[0]? = some x := by
    cases L with
    | nil => exact absurd rfl hne
    | cons y _ => exact ⟨y, rfl⟩
  have h0 := hr 0 x hx
  unfold World.cell? at h0
  cases hb : W.heap[g]? with
  | none => rw [show (⟨g, 0 + 0, none⟩ : Addr).block = g from rfl, hb] at h0; simp at h0
  | some o => exact lt_of_block hb
theorem gParts : Tryd.prog.globalNamed "petrel/op.parts" = some 0 := by kernel_rfl
theorem parts_of {W : World} (h : laidMetH Tryd.prog [("petrel/op.parts", Rows.laid_petrel_op_parts)] W) : Ox.TabP W := by
  rw [MakeChecks.laidMetH_plain _ _ _ (by kernel_rfl)] at h
  obtain ⟨ps, ⟨g0, t0, cs0, f0, p0, q0, hg0, ht0, hv0, hd0, _, _⟩, _, _⟩ := h
  obtain rfl := Option.some.inj (gParts.symm.trans hg0)
  have tP : (Tryd.prog.globals[0]?).map (·.type) = some 103 := by kernel_rfl
  obtain rfl := Option.some.inj (tP.symm.trans ht0)
  have hc := arr_cells (vals := Ox.PT) (k := .i64) Tryd.underlying103 Tryd.underlying3 (by kernel_rfl) hd0 rfl
  refine tab_of gParts hv0 (fun i x hi => ?_) (by decide)
  rw [List.getElem?_map] at hi
  cases hx : Ox.PT[i]? with
  | none => rw [hx] at hi; cases hi
  | some y =>
    rw [hx] at hi
    cases hi
    exact hc i y hx
end Lad
end Go.Proofs.YtfoplimdbapdfaaDoor
