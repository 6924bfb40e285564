/-
  Arrays of numbers in tables, as they are read.
-/
import Derived.Test.YthllhjdaknmlbaaDoorGMm
import Derived.Test.YthllhjdaknmlbaaDoorRows
import Derived.MakeChecks
import Derived.LaidMore
import Derived.OpenShut
import Derived.Lay
import Derived.ProofKit
set_option linter.unusedVariables false
set_option linter.unusedSimpArgs false
namespace Go.Proofs.YthllhjdaknmlbaaDoor
open Go.RowKit
namespace Lad
open Go.ChangeShapes Go.WideShapes Go.ChangeAt
/-- An array of whole numbers, as it is read: its cells. -/
theorem arr_cells {H : Type} {enc : TypeId × Value → H} {P : Program} {w : World} {base : Nat} {spare : TypeId → Bool} {held : Bool} {fuel : Nat} {t e : TypeId} {n : Nat} {k : IntKind} {cs : List Value} {vals : List Int} {q : List MemPlace} (ht : P.underlying t = some (.array n e)) (he : P.underlying e = some (.int k)) (hc : P.cellsOf e = 1)
    (h : DataW.trod enc P w base spare held fuel t cs = some (.agg (vals.map fun x => .lit (.int k x)), q)) (hn : vals.length = n) : ∀ (i : Nat) (x : Int), vals[i]? = some x → cs[i]? = some (Value.int k x) := by
  obtain ⟨xs, m, rfl, hx, hlen, hxn, hel⟩ := DataW.trod_array ht h
  intro i x hi
  have hin : i < n := by rw [← hn]; exact (List.getElem?_eq_some_iff.1 hi).1
  simp only [Prod.mk.injEq, DataW.agg.injEq] at hx
  obtain ⟨hx1, _⟩ := hx
  have h1 := hel i hin
  obtain ⟨y, hy⟩ : ∃ y, xs[i]? = some y := ⟨_, List.getElem?_eq_getElem (by rw [hxn]; exact hin)⟩
  rw [hy] at h1
  obtain ⟨z, e1, e2, _⟩ := DataW.trod_int he h1
  have h2 : (vals.map fun x => (DataW.lit (.int k x) : DataW H))[i]? = (xs.map (·.1))[i]? := by rw [hx1]
  rw [List.getElem?_map, List.getElem?_map, hi, hy, e2] at h2
  simp at h2
  subst h2
  rw [hc, Nat.mul_one] at e1
  have h3 : ((cs.drop i).take 1)[0]? = some (.int k x) := by rw [e1]; rfl
  rw [List.getElem?_take_of_lt (by omega), List.getElem?_drop] at h3
  simpa using h3
theorem tab_of {P : Program} {W : World} {name : String} {g : Nat} {cs : Array Value} (hg : P.globalNamed name = some g) (hv : W.var? P name = some cs) {L : List Value} (h : ∀ (i : Nat) (x : Value), L[i]? = some x → cs.toList[i]? = some x) (hne : L ≠ []) : g < W.heap.size ∧ W.rangeAt g 0 L := by
  have hr : W.rangeAt g 0 L := fun i x hi => by
    rw [Nat.zero_add, World.var?_cell hg hv i, ← Array.getElem?_toList]
    exact h i x hi
  refine ⟨?_, hr⟩
  obtain ⟨x, hx⟩ : ∃ x, L[0]? = some x := by
    cases L with
    | nil => exact absurd rfl hne
    | cons y _ => exact ⟨y, rfl⟩
  have h0 := hr 0 x hx
  unfold World.cell? at h0
  cases hb : W.heap[g]? with
  | none => rw [show (⟨g, 0 + 0, none⟩ : Addr).block = g from rfl, hb] at h0; simp at h0
  | some o => exact lt_of_block hb
end Lad
end Go.Proofs.YthllhjdaknmlbaaDoor
