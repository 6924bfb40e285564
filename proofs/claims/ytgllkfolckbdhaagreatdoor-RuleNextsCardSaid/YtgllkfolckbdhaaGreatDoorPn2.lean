/-
  The pen in memory; New, Len, Lost, Has, All.
-/
import Derived.Test.YtgllkfolckbdhaaGreatDoorPn1
set_option linter.unusedVariables false
set_option linter.unusedSimpArgs false
namespace Go.Proofs.YtgllkfolckbdhaaGreatDoor
open Go.RowKit
namespace Pn
open Oct Ids Gn Hd
open Mem (M It blk ids rows)

/-- The parents of who waits. -/
def pars (L : List Wt) : It := ⟨fun k => ∃ x ∈ L, ∃ off, x.a = some ⟨k, off, none⟩, fun w => ∀ x ∈ L, At w x.a x.n x.l, fun w w' S h k n => fun x hx => (h x hx).keep k (fun b off e => n b ⟨x, hx, off, e⟩)⟩
/-- The blocks that it takes up. -/
def foot (b : Nat) (v : Value) (L : List Wt) (k : Nat) : Prop := (k = b ∨ v.ownBlock = some k) ∨ ∃ x ∈ L, ∃ off, x.a = some ⟨k, off, none⟩
theorem we_mid (x : Wt) : (we x).drop 38 = x.id.map bv ++ [.int .i64 x.fr] := by
  unfold we
  rw [List.drop_append_of_le_length (by rw [hv_len]; exact Nat.le_refl _), List.drop_eq_nil_of_le (by rw [hv_len]; exact Nat.le_refl _), List.nil_append]
/-- A waiter in a block of its own: its parts. -/
theorem wt_id {w : World} {b : Nat} {x : Wt} {t : TypeId} {fr : Nat × Nat} (h : w.heap[b]? = some (.cells (we x).toArray t fr)) : w.rangeAt b 38 (x.id.map bv) := fun j v hj => by
  rw [cell_of h, List.getElem?_toArray, ← List.getElem?_drop, we_mid, List.getElem?_append_left (List.getElem?_eq_some_iff.1 hj).1]
  exact hj
theorem wt_hd {w : World} {b : Nat} {x : Wt} {t : TypeId} {fr : Nat × Nat} (h : w.heap[b]? = some (.cells (we x).toArray t fr)) : w.rangeAt b 0 (hv x) := fun j v hj => by
  rw [cell_of h, List.getElem?_toArray, Nat.zero_add]
  unfold we
  rw [List.getElem?_append_left (List.getElem?_eq_some_iff.1 hj).1]
  exact hj
theorem wt_fr {w : World} {b : Nat} {x : Wt} {t : TypeId} {fr : Nat × Nat} (h : w.heap[b]? = some (.cells (we x).toArray t fr)) : w.cell? ⟨b, 70, none⟩ = some (.int .i64 x.fr) := by
  rw [cell_of h, List.getElem?_toArray, show (70 : Nat) = 38 + 32 from rfl, ← List.getElem?_drop, we_mid, List.getElem?_append_right (by rw [List.length_map, x.hid]; exact Nat.le_refl _), List.length_map, x.hid]
  rfl
theorem wt_pv {w : World} {b : Nat} {x : Wt} {t : TypeId} {fr : Nat × Nat} (h : w.heap[b]? = some (.cells (we x).toArray t fr)) : w.cell? ⟨b, 0, none⟩ = some (.slice x.a x.n x.c) := wt_hd h 0 _ rfl
end Pn
end Go.Proofs.YtgllkfolckbdhaaGreatDoor
