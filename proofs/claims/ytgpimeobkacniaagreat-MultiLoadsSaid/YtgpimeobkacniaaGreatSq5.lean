/-
  seq.Insert.
-/
import Derived.Test.YtgpimeobkacniaaGreatSq4
set_option linter.unusedVariables false
set_option linter.unusedSimpArgs false
namespace Go.Proofs.YtgpimeobkacniaaGreat
open Go.RowKit
namespace Sq
open Oct Ids Mp
open Mem (M It blk ids rows)
theorem fold_set : ∀ (cs : List Value) (off j : Nat) (cells : List Value), off + j + cs.length ≤ cells.length →
    ((cs.zipIdx j).foldl (fun (a : Array Value) (p : Value × Nat) => a.setIfInBounds (off + p.2) p.1) cells.toArray) = (cells.take (off + j) ++ cs ++ cells.drop (off + j + cs.length)).toArray
  | [], off, j, cells, h => by simp
  | c :: cs, off, j, cells, h => by
    simp only [List.length_cons] at h
    rw [List.zipIdx_cons, List.foldl_cons, List.setIfInBounds_toArray, fold_set cs off (j + 1) (cells.set (off + j) c) (by rw [List.length_set]; omega)]
    refine congrArg List.toArray ?_
    have hlt : off + j < cells.length := by omega
    have e1 : (cells.set (off + j) c).take (off + (j + 1)) = cells.take (off + j) ++ [c] := by
      rw [show off + (j + 1) = off + j + 1 by omega, List.take_add_one, List.take_set_of_le (Nat.le_refl _), List.getElem?_set_self hlt]
      rfl
    have e2 : (cells.set (off + j) c).drop (off + (j + 1) + cs.length) = cells.drop (off + j + (c :: cs).length) := by
      rw [List.drop_set_of_lt (by omega), List.length_cons]
      congr 1; omega
    rw [e1, e2]
    simp
theorem fill_cons {place : Nat → Option (Nat × Nat)} {cells : List Value} {i off size : Nat} {v : Value} {rest : List (Nat × Value)} {cs : List Value} (hp : place i = some (off, size)) (hv : v.cells = cs.toArray) (hs : cs.length = size) (hb : off + size ≤ cells.length) :
    Instr.fill place cells.toArray ((i, v) :: rest) = Instr.fill place (cells.take off ++ cs ++ cells.drop (off + size)).toArray rest := by
  have h1 : ¬ ((v.cells.size ≠ size || off + v.cells.size > cells.toArray.size) = true) := by
    rw [hv]
    simp [hs]
    omega
  rw [Instr.fill]
  simp only [hp]
  rw [if_neg h1, hv]
  have := fold_set cs off 0 cells (by omega)
  rw [Nat.add_zero, hs] at this
  rw [← this]
  simp
section
variable {ops : Array Oper} {rest : List Oper} {o : Oper} {a : Act} {w : World} {Q : Exit → Act → World → Prop}
theorem wl_buildL {T : TypeId} {parts : Array (Nat × Operand)} (hgd : o.guard = none) (ho : o.op = .build T parts) (ps : List (Nat × Value)) (hp : (parts.toList.map fun (i, x) => (i, a.eval x)) = ps) {cs : Array Value} (hb : Tryz.prog.built T ps = some cs) (h : wpList Tryz.prog ops Q rest (a.put o.dst (.agg cs)) w) : wpList Tryz.prog ops Q (o :: rest) a w :=
  St.wl_buildV hgd ho (by rw [Array.toList_map, hp]; exact hb) h
end
theorem lookN_one (N : Nds) (u : List UInt8) : (lookN N u).toArray.all (·.oneCell') = true := by
  unfold lookN
  cases fget N u with
  | none => exact (by show nz.toList.toArray.all _ = true; rw [Array.toArray_toList]; exact encN.all ⟨0, List.replicate 32 0, rfl, ByteArray.empty⟩)
  | some p => exact encN.all p
theorem keep_new2 {w w1 : World} {o : Obj} (k : Keep (fun _ => False) w (w1.alloc o)) (k1 : Keep (fun _ => False) w w1) (cs : Array Value) : Keep (fun _ => False) w ((w1.alloc o).setRow w1.heap.size cs) :=
  k.trans' ((Keep.refl (fun k => k = w1.heap.size) _).setRow w1.heap.size cs (fun _ => rfl)) (fun _ _ h => h) (fun j hj (e : j = w1.heap.size) => by have := k1.size; omega)
end Sq
end Go.Proofs.YtgpimeobkacniaaGreat
