/-
  seq: check, Delete.
-/
import Derived.Test.YtgpimeobkacniaaGreatSq1
import Derived.Test.YtgpimeobkacniaaGreatMpT
import Derived.Test.YtgpimeobkacniaaGreatGOp
set_option linter.unusedVariables false
set_option linter.unusedSimpArgs false
namespace Go.Proofs.YtgpimeobkacniaaGreat
open Go.RowKit
namespace Sq
open Oct Ids Mp
open Mem (M It blk ids rows)
theorem at_load {P : Program} {ops : Array Oper} {Q : Exit → Act → World → Prop} {d : Option Tmp} {ty : TypeId} {p : String} {x : Operand} {af} {g} {rest : List Oper} {a : Act} {w : World} (T : TypeId) (h : wpList P ops Q ({ dst := d, op := .load T x, type := ty, pos := p, after := af, guard := g } :: rest) a w) : wpList P ops Q ({ dst := d, op := .load T x, type := ty, pos := p, after := af, guard := g } :: rest) a w := h
theorem at_alloc {P : Program} {ops : Array Oper} {Q : Exit → Act → World → Prop} {d : Option Tmp} {ty : TypeId} {p : String} {af} {g} {rest : List Oper} {a : Act} {w : World} (T : TypeId) (h : wpList P ops Q ({ dst := d, op := .alloc T, type := ty, pos := p, after := af, guard := g } :: rest) a w) : wpList P ops Q ({ dst := d, op := .alloc T, type := ty, pos := p, after := af, guard := g } :: rest) a w := h
theorem at_store {P : Program} {ops : Array Oper} {Q : Exit → Act → World → Prop} {d : Option Tmp} {ty : TypeId} {p : String} {x y : Operand} {af} {g} {rest : List Oper} {a : Act} {w : World} (T : TypeId) (h : wpList P ops Q ({ dst := d, op := .store T x y, type := ty, pos := p, after := af, guard := g } :: rest) a w) : wpList P ops Q ({ dst := d, op := .store T x y, type := ty, pos := p, after := af, guard := g } :: rest) a w := h
abbrev Zi : List UInt8 := List.replicate 32 0
/-- May a node be? -/
def chk (u : List UInt8) (x : Nd) : Int := if 16 < x.v.size then 3 else if x.h < 1 ∨ 1073741824 < x.h ∨ u = Zi then 5 else 0
theorem ne_val (x : Nd) : (ne x).toArray[33]? = some (.string x.v) := by
  unfold ne
  rw [List.getElem?_toArray, List.getElem?_cons_succ, List.getElem?_append_right (by rw [List.length_map, x.hr]; decide), List.length_map, x.hr]
  rfl
theorem ne_ref (x : Nd) : (ne x).drop 1 = x.r.map bv ++ [.string x.v] := rfl
/-- What is gone, and one more. -/
def addG (G : List (List UInt8)) (u : List UInt8) : List (List UInt8) := if u ∈ G then G else G ++ [u]
theorem fnd_dG (u : List UInt8) : ∀ (G : List (List UInt8)) (j : Nat), (u ∈ G → ∃ i, fnd u (dG G) j = some (i, .bool true)) ∧ (u ∉ G → fnd u (dG G) j = none)
  | [], j => ⟨fun h => (by cases h), fun _ => rfl⟩
  | g :: G, j => by
    obtain ⟨h1, h2⟩ := fnd_dG u G (j + 1)
    unfold dG at h1 h2 ⊢
    rw [List.map_cons, fnd]
    by_cases e : u = g
    · rw [if_pos e]
      exact ⟨fun _ => ⟨j, rfl⟩, fun h => absurd (by rw [e]; exact List.mem_cons_self) h⟩
    · rw [if_neg e]
      refine ⟨fun h => h1 (by rcases List.mem_cons.1 h with h | h; exact absurd h e; exact h), fun h => h2 fun h' => h (List.mem_cons_of_mem _ h')⟩
theorem put_dG (G : List (List UInt8)) (u : List UInt8) : put (dG G) u (.bool true) = dG (addG G u) := by
  obtain ⟨h1, h2⟩ := fnd_dG u G 0
  unfold put addG
  by_cases h : u ∈ G
  · obtain ⟨i, hi⟩ := h1 h
    rw [if_pos h]
    simp only [hi]
    obtain ⟨_, h3⟩ := fnd_some hi
    rw [Nat.sub_zero] at h3
    have := (List.getElem?_eq_some_iff.1 h3)
    obtain ⟨hlt, he⟩ := this
    rw [← he, List.set_getElem_self]
  · rw [if_neg h]
    simp only [h2 h]
    unfold dG
    rw [List.map_append]
    rfl
end Sq
end Go.Proofs.YtgpimeobkacniaaGreat
