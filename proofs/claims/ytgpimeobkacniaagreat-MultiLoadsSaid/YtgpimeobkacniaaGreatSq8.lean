/-
  seq.List.
-/
import Derived.Test.YtgpimeobkacniaaGreatSq7
set_option linter.unusedVariables false
set_option linter.unusedSimpArgs false
namespace Go.Proofs.YtgpimeobkacniaaGreat
open Go.RowKit
namespace Sq
open Oct Ids Mp
open Mem (M It blk ids rows)
def vN (N : Nds) (y : List UInt8) : ByteArray := ((fget N y).map (·.v)).getD ByteArray.empty
theorem lookN_v (N : Nds) (y : List UInt8) : (lookN N y).toArray[33]? = some (.string (vN N y)) := by
  unfold lookN vN
  cases fget N y with
  | none => rfl
  | some p => exact ne_val p
/-- A pair without a key. -/
def pe (v : ByteArray) : List Value := [.string ByteArray.empty, .string v]
theorem encP : St.Enc 2 pe := ⟨fun _ => rfl, fun x u hu => by
  unfold pe at hu
  simp only [List.mem_cons, List.not_mem_nil, or_false] at hu
  rcases hu with rfl | rfl <;> rfl⟩
theorem slP : SlT Tryz.prog 32 80 (.agg #[.string ByteArray.empty, .string ByteArray.empty]) 2 32 := SlT.mk' Tryz.underlying32 (by kernel_rfl) rfl (by omega)
theorem built_P (v : ByteArray) : Tryz.prog.built 80 [(1, .string v)] = some (pe v).toArray := by kernel_rfl
/-- What List comes to. -/
def lst (N : Nds) (G l : List (List UInt8)) : List ByteArray := (l.filter fun y => decide (y ∉ G)).map (vN N)
theorem look_G (G : List (List UInt8)) (y : List UInt8) : (get (dG G) y).getD (.bool false) = .bool (decide (y ∈ G)) := by
  obtain ⟨h1, h2⟩ := fnd_dG y G 0
  unfold Mp.get
  by_cases h : y ∈ G
  · obtain ⟨i, hi⟩ := h1 h
    rw [hi, decide_eq_true h]
    rfl
  · rw [h2 h, decide_eq_false h]
    rfl
theorem zeroB (w : World) : (zeroValue 4).run Tryz.prog w = .ok (.bool false) w := zero_of (n := 1) (by kernel_rfl) w
theorem ex_buildL {o : Oper} {a : Act} {T : TypeId} {parts : Array (Nat × Operand)} (ho : o.op = .build T parts) (ps : List (Nat × Value)) (hp : (parts.toList.map fun (i, x) => (i, a.eval x)) = ps) {cs : Array Value} (hb : Tryz.prog.built T ps = some cs) : ∀ w, (execOp a.eval o).run Tryz.prog w = .ok (.value (.agg cs)) w := fun w => by
  have e : (parts.map fun (i, x) => (i, a.eval x)) = ps.toArray := Array.toList_inj.1 (by rw [Array.toList_map]; exact hp)
  have hr : (Instr.build T ps.toArray).run Tryz.prog w = .ok (.agg cs) w := run_build w T ps.toArray cs (by simpa using hb)
  unfold execOp
  simp only [ho, e, Sem.run_bind, hr, Result.andThen_ok, Sem.run_pure]
theorem lst_in {N : Nds} {G l : List (List UInt8)} {k : Nat} {x : List UInt8} (hx : l[k]? = some x) (h : x ∈ G) : lst N G (l.take (k + 1)) = lst N G (l.take k) := by
  unfold lst
  rw [List.take_add_one, hx, List.filter_append]
  simp [h]
theorem lst_out {N : Nds} {G l : List (List UInt8)} {k : Nat} {x : List UInt8} (hx : l[k]? = some x) (h : x ∉ G) : lst N G (l.take (k + 1)) = lst N G (l.take k) ++ [vN N x] := by
  unfold lst
  rw [List.take_add_one, hx, List.filter_append, List.map_append]
  simp [h]
theorem lst_len {N : Nds} {G l : List (List UInt8)} (k : Nat) : (lst N G (l.take k)).length ≤ k := by
  unfold lst
  rw [List.length_map]
  exact Nat.le_trans (List.length_filter_le _ _) (List.length_take_le _ _)
end Sq
end Go.Proofs.YtgpimeobkacniaaGreat
