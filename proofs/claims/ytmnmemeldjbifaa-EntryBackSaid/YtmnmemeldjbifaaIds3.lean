/-
  Ids in memory: loads, stores, conversions of 32 bytes.
-/
import Derived.Test.YtmnmemeldjbifaaIds1
import Derived.Test.YtmnmemeldjbifaaOct4
import Derived.Deep.WholeRow
import Derived.Laws.IdiomStrings
import Derived.Laws.Cells
set_option linter.unusedVariables false
set_option linter.unusedSimpArgs false
namespace Go.Proofs.Ytmnmemeldjbifaa
open Go.RowKit
namespace Ids
open Oct

/-- The cells of an id that is zero. -/
abbrev z32 : Array Value := #[.int .u8 0, .int .u8 0, .int .u8 0, .int .u8 0, .int .u8 0, .int .u8 0, .int .u8 0, .int .u8 0, .int .u8 0, .int .u8 0, .int .u8 0, .int .u8 0, .int .u8 0, .int .u8 0, .int .u8 0, .int .u8 0, .int .u8 0, .int .u8 0, .int .u8 0, .int .u8 0, .int .u8 0, .int .u8 0, .int .u8 0, .int .u8 0, .int .u8 0, .int .u8 0, .int .u8 0, .int .u8 0, .int .u8 0, .int .u8 0, .int .u8 0, .int .u8 0]
theorem info32 : (Try.prog.info? 41).map (·.size) = some 32 := by kernel_rfl
theorem one_bv (x : List UInt8) : ((x.map bv).toArray).all (·.oneCell') = true := by simp [bv, Value.oneCell']
/-- A load of an id, as the walk asks it. -/
theorem load_id (w : World) (b o : Nat) (x : List UInt8) (hx : x.length = 32) (hr : w.rangeAt b o (x.map bv)) :
    Sem.run Try.prog (loadCellsFrom ⟨b, o, none⟩ 0 32 #[]) w = .ok (x.map bv).toArray w := by
  have := run_loadCells_list (P := Try.prog) (w := w) ⟨b, o, none⟩ (x.map bv) (fun j v hj => by
    rw [Addr.add_mid]; exact hr j v hj)
  rw [List.length_map, hx] at this
  simpa [loadCells] using this
/-- A store of an id into the block that was made last. -/
theorem store_new (w : World) (x : List UInt8) (hx : x.length = 32) :
    Sem.run Try.prog (storeCells ⟨w.heap.size, 0, none⟩ (x.map bv) 0) (w.alloc (.cells z32 41)) = .ok () (w.alloc (.cells (x.map bv).toArray 41)) := by
  have := run_storeCells_new (P := Try.prog) w 41 z32 (x.map bv).toArray (by rw [info32]; simp [hx]) (by simp [hx]) (one_bv x)
  simpa using this
/-- A load of the id that was made last. -/
theorem load_new (w : World) (x : List UInt8) (hx : x.length = 32) :
    Sem.run Try.prog (loadCellsFrom ⟨w.heap.size, 0, none⟩ 0 32 #[]) (w.alloc (.cells (x.map bv).toArray 41)) = .ok (x.map bv).toArray (w.alloc (.cells (x.map bv).toArray 41)) :=
  run_loadCellsFrom_new w _ _ 32 (by simp [hx])
/-- 'string(id[:])' of 32 bytes that lie at a block's beginning. -/
theorem conv_id (w : World) (b o : Nat) (x : List UInt8) (hx : x.length = 32) (c : Nat) (hr : w.rangeAt b o (x.map bv)) :
    Sem.run Try.prog (convert 53 9 (.slice (some ⟨b, o, none⟩) 32 c)) w = .ok (.string ⟨x.toArray⟩) w := by
  have := run_convert_bytes_back (P := Try.prog) w 53 9 5 ⟨b, o, none⟩ c x Try.underlying53 Try.underlying5 Try.underlying9 (fun j hj => by
    rw [Addr.add_mid]
    refine hr j _ ?_
    rw [List.getElem?_map, List.getElem?_eq_getElem hj]
    rfl)
  rwa [hx] at this
theorem range_new (w : World) (cs : List Value) (t : TypeId) : (w.alloc (.cells cs.toArray t)).rangeAt w.heap.size 0 cs := by
  intro j v hj
  rw [Nat.zero_add, cell_of (heap_alloc_new w _)]
  simpa using hj
section
variable {ops : Array Oper} {rest : List Oper} {op : Oper} {a : Act} {w : World} {Q : Exit → Act → World → Prop}
/-- The operation 'load an id', at a plain region's list. -/
theorem wl_load (hgd : op.guard = none) {x : Operand} (ho : op.op = .load 41 x) {b o : Nat} (hx : a.eval x = .pointer (some ⟨b, o, none⟩)) {l : List UInt8} (hl : l.length = 32) (hr : w.rangeAt b o (l.map bv))
    (h : wpList Try.prog ops Q rest (a.put op.dst (idv l)) w) : wpList Try.prog ops Q (op :: rest) a w :=
  wpList_load_mid hgd _ x ho b o hx (l.map bv) _ hr Try.underlying41 rfl (by rw [info32, List.length_map, hl]) h
/-- The operation 'store an id' into the block that was made last. -/
theorem wl_store_new (hgd : op.guard = none) {x y : Operand} (ho : op.op = .store 41 x y) (hd : op.dst = none) {W : World} (hw : w = W.alloc (.cells z32 41)) (hx : a.eval x = .pointer (some ⟨W.heap.size, 0, none⟩)) {l : List UInt8} (hl : l.length = 32) (hy : a.eval y = idv l)
    (h : wpList Try.prog ops Q rest a (W.alloc (.cells (l.map bv).toArray 41))) : wpList Try.prog ops Q (op :: rest) a w :=
  wpList_plain hgd fun K hK => by
    subst hw
    unfold Oper.wp execOp
    simp only [ho, hx, hy, Sem.run_bind]
    rw [run_storeAt_new W 41 z32 (l.map bv).toArray (by rw [info32]; simp [hl]) (by simp [hl]) (one_bv l)]
    rw [Result.andThen_ok, Sem.run_pure]
    rw [Oper.upon_skip]
    rw [hd]
    exact hK _ _ h
end
end Ids
end Go.Proofs.Ytmnmemeldjbifaa
