/-
  The document's pen in memory.
-/
import Derived.Test.YtgllkfolckbdhaaGreatDoorPn9
import Derived.Test.YtgllkfolckbdhaaGreatDoorRows4
set_option linter.unusedVariables false
set_option linter.unusedSimpArgs false
namespace Go.Proofs.YtgllkfolckbdhaaGreatDoor
open Go.RowKit
namespace Px
open Oct Ids Gn Hd Pn
open Mem (M It blk ids rows)

def eI (x : Wt) : List Value := x.id.map bv
def eF (x : Wt) : List Value := [.int .i64 x.fr]
theorem encH : St.Enc 38 hv := by
  refine ⟨hv_len, fun x u hu => ?_⟩
  unfold hv hd at hu
  simp only [List.mem_append, List.mem_cons, List.mem_map, List.not_mem_nil, or_false] at hu
  rcases hu with ((rfl | rfl | rfl | rfl | rfl | rfl) | ⟨y, _, rfl⟩) <;> rfl
theorem encI : St.Enc 32 eI := by
  refine ⟨fun x => by unfold eI; rw [List.length_map, x.hid], fun x u hu => ?_⟩
  obtain ⟨y, _, rfl⟩ := List.mem_map.1 hu
  rfl
theorem encF : St.Enc 1 eF := by
  refine ⟨fun x => rfl, fun x u hu => ?_⟩
  obtain rfl := List.mem_singleton.1 hu
  rfl
theorem slH : SlT Tryz.prog 22 28 (.agg hz0) 38 104 := SlT.mk' Tryz.underlying22 (by kernel_rfl) rfl (by omega)
theorem slI : SlT Tryz.prog 26 24 (.agg z32) 32 32 := slId
theorem slF : SlT Tryz.prog 88 3 (.int .i64 0) 1 8 := SlT.mk' Tryz.underlying88 (by kernel_rfl) rfl (by omega)
/-- Ids of waiters, as ids. -/
theorem at_ids {w : World} {a : Option Addr} {n : Nat} {L : List Wt} (h : St.At 32 eI w a n L) : At w a n (L.map fun x : Wt => x.id) := by
  refine ⟨by rw [List.length_map]; exact h.len, fun x hx => ?_, h.most, h.lay.imp id ?_⟩
  · obtain ⟨y, _, rfl⟩ := List.mem_map.1 hx
    exact y.hid
  · rintro ⟨b, off, ha, hb, hr⟩
    refine ⟨b, off, ha, hb, fun i x hi => ?_⟩
    rw [List.getElem?_map] at hi
    cases hy : L[i]? with
    | none => rw [hy] at hi; cases hi
    | some y =>
      rw [hy] at hi
      cases hi
      exact hr i y hy
def rH (v : Value) (L : List Wt) : It := rows 28 38 hv v L
def rI (v : Value) (L : List Wt) : It := rows 24 32 eI v L
def rF (v : Value) (L : List Wt) : It := rows 3 1 eF v L
/-- The blocks that it takes up. -/
def xfoot (b : Nat) (lv iv fv : Value) (L : List Wt) (k : Nat) : Prop := k = b ∨ lv.ownBlock = some k ∨ iv.ownBlock = some k ∨ fv.ownBlock = some k ∨ ∃ x ∈ L, ∃ off, x.a = some ⟨k, off, none⟩
end Px
end Go.Proofs.YtgllkfolckbdhaaGreatDoor
