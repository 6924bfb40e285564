/-
  Ids: arrays of 32 bytes; rows of ids; slices.Equal and petrelref06's Same over them. petrelref01.Ids. Ids in memory: loads, stores, conversions of 32 bytes. Ids: copy out of a string, one id appended, rows of one's own. An id read: petrelref01's Reader.Id; msg's list. msg's list: the ids that a reader reads. petrelref01's Reader, told as octet's: the whole text, and where it stands.
-/
import Derived.Test.YthllhjdaknmlbaaDoorBase
import Derived.Test.YthllhjdaknmlbaaDoorText
import Derived.Test.YthllhjdaknmlbaaDoorGOc
import Derived.Stop.BytesEq
import Derived.ProofKit
import Derived.Test.YthllhjdaknmlbaaDoorGRd
import Derived.Deep.WholeRow
import Derived.Laws.IdiomStrings
import Derived.Laws.Cells
import Derived.Lib.BufferWrite
import Derived.Great.BuildSlice
set_option linter.unusedVariables false
set_option linter.unusedSimpArgs false

namespace Go.Proofs.YthllhjdaknmlbaaDoor
open Go.RowKit
theorem Keep.range {S : Nat → Prop} {a w : World} (h : Keep S a w) {b i : Nat} {cs : List Value} (hb : b < a.heap.size) (hn : ¬ S b) (hr : a.rangeAt b i cs) : w.rangeAt b i cs :=
  fun j v hj => (h.cell (p := ⟨b, i + j, none⟩) hb hn).trans (hr j v hj)
namespace Ids
open Oct
/-- An id as a value. -/
abbrev idv (x : List UInt8) : Value := .agg (x.map bv).toArray
theorem sz8 (w : World) : (sizeOf 5).run Tryd.prog w = .ok 1 w := by
  have h := infoU8
  cases hi : Tryd.prog.info? 5 with
  | none => rw [hi] at h; cases h
  | some i =>
    rw [run_sizeOf w hi, show Tryd.prog.cellsOf 5 = 1 from by kernel_rfl]
theorem bv_cell : bv = Extern.Stop.cell := rfl
theorem neq_id (w : World) (x y : List UInt8) (hx : x.length = 32) (hy : y.length = 32) : Sem.run Tryd.prog (binOp .neq 24 (idv x) (idv y)) w = .ok (.bool (!(x == y))) w := by
  unfold idv
  rw [run_neq_struct, bv_cell, run_equalIn_bytes (P := Tryd.prog) w 9998 24 5 32 Tryd.underlying24 Tryd.underlying5 sz8 x y hx hy]
  rfl
theorem eql_id (w : World) (x y : List UInt8) (hx : x.length = 32) (hy : y.length = 32) : Sem.run Tryd.prog (binOp .eql 24 (idv x) (idv y)) w = .ok (.bool (x == y)) w := by
  unfold idv
  rw [run_eql_struct, bv_cell, run_equalIn_bytes (P := Tryd.prog) w 9998 24 5 32 Tryd.underlying24 Tryd.underlying5 sz8 x y hx hy]
  rfl
theorem guard_id (op : BinOp) (a b : Operand) (xs ys : Array Value) (w : World) : Sem.run Tryd.prog (eqGuard op 24 a b (.agg xs) (.agg ys)) w = .ok () w :=
  run_eqGuard_agg w op 24 a b xs ys (by kernel_rfl)

/-- A row of ids, in memory. -/
structure At (w : World) (a : Option Addr) (n : Nat) (els : List (List UInt8)) : Prop where
  len : els.length = n
  size : ∀ x ∈ els, x.length = 32
  most : n ≤ maxLen
  lay : n = 0 ∨ ∃ b off, a = some ⟨b, off, none⟩ ∧ b < w.heap.size ∧ ∀ i x, els[i]? = some x → w.rangeAt b (off + i * 32) (x.map bv)
theorem At.keep {w w' : World} {a : Option Addr} {n : Nat} {els : List (List UInt8)} (h : At w a n els) {S : Nat → Prop} (hk : Keep S w w') (hn : ∀ b off, a = some ⟨b, off, none⟩ → ¬ S b) : At w' a n els := by
  refine ⟨h.len, h.size, h.most, h.lay.imp id ?_⟩
  rintro ⟨b, off, ha, hb, hr⟩
  exact ⟨b, off, ha, Nat.lt_of_lt_of_le hb hk.size, fun i x hi => hk.range hb (hn b off ha) (hr i x hi)⟩
theorem At.calm {w w' : World} {a : Option Addr} {n : Nat} {els : List (List UInt8)} (h : At w a n els) (hk : Keep (fun _ => False) w w') : At w' a n els := h.keep hk (fun _ _ _ h => h)

theorem take_step {α : Type} (l m : List α) (k : Nat) (x y : α) (hx : l[k]? = some x) (hy : m[k]? = some y) (h : l.take k = m.take k) (e : x = y) : l.take (k + 1) = m.take (k + 1) := by
  rw [List.take_add_one, List.take_add_one, h, hx, hy, e]
theorem take_ne {α : Type} (l m : List α) (k : Nat) (x y : α) (hx : l[k]? = some x) (hy : m[k]? = some y) (e : x ≠ y) : l ≠ m := fun h => by
  rw [h, hy] at hx
  exact e (Option.some.inj hx).symm

end Ids
end Go.Proofs.YthllhjdaknmlbaaDoor


namespace Go.Proofs.YthllhjdaknmlbaaDoor
open Go.RowKit
namespace Ids
open Oct Ref

theorem cat_byte (S : ByteArray) (l : List UInt8) (c : UInt8) (h : S.data.toList = l) : (S ++ (⟨#[c]⟩ : ByteArray)).data.toList = l ++ [c] := by
  rw [ByteArray.data_append, Array.toList_append, h]
theorem flat_len : ∀ (l : List (List UInt8)), (∀ x ∈ l, x.length = 32) → l.flatten.length = 32 * l.length
  | [], _ => rfl
  | x :: l, h => by
    rw [List.flatten_cons, List.length_append, h x (by simp), flat_len l (fun y hy => h y (by simp [hy])), List.length_cons]
    omega
theorem size_of {S : ByteArray} {l : List UInt8} (h : S.data.toList = l) : S.size = l.length := by rw [← h, Array.length_toList]; rfl
theorem flat_take (l : List (List UInt8)) (i : Nat) (hs : ∀ x ∈ l, x.length = 32) (hi : i ≤ l.length) : (l.take i).flatten.length = 32 * i := by
  rw [flat_len _ (fun x hx => hs x (List.mem_of_mem_take hx)), List.length_take, Nat.min_eq_left hi]
theorem take_flat (l : List (List UInt8)) (i : Nat) (x : List UInt8) (hx : l[i]? = some x) : (l.take (i + 1)).flatten = (l.take i).flatten ++ x := by
  rw [List.take_add_one, hx]
  simp
end Ids
end Go.Proofs.YthllhjdaknmlbaaDoor


namespace Go.Proofs.YthllhjdaknmlbaaDoor
open Go.RowKit
namespace Ids
open Oct

/-- The cells of an id that is zero. -/
abbrev z32 : Array Value := #[.int .u8 0, .int .u8 0, .int .u8 0, .int .u8 0, .int .u8 0, .int .u8 0, .int .u8 0, .int .u8 0, .int .u8 0, .int .u8 0, .int .u8 0, .int .u8 0, .int .u8 0, .int .u8 0, .int .u8 0, .int .u8 0, .int .u8 0, .int .u8 0, .int .u8 0, .int .u8 0, .int .u8 0, .int .u8 0, .int .u8 0, .int .u8 0, .int .u8 0, .int .u8 0, .int .u8 0, .int .u8 0, .int .u8 0, .int .u8 0, .int .u8 0, .int .u8 0]
theorem info32 : (Tryd.prog.info? 24).map (·.size) = some 32 := by kernel_rfl
theorem one_bv (x : List UInt8) : ((x.map bv).toArray).all (·.oneCell') = true := by simp [bv, Value.oneCell']
/-- A load of an id, as the walk asks it. -/
theorem load_id (w : World) (b o : Nat) (x : List UInt8) (hx : x.length = 32) (hr : w.rangeAt b o (x.map bv)) :
    Sem.run Tryd.prog (loadCellsFrom ⟨b, o, none⟩ 0 32 #[]) w = .ok (x.map bv).toArray w := by
  have := run_loadCells_list (P := Tryd.prog) (w := w) ⟨b, o, none⟩ (x.map bv) (fun j v hj => by
    rw [Addr.add_mid]; exact hr j v hj)
  rw [List.length_map, hx] at this
  simpa [loadCells] using this
/-- A store of an id into the block that was made last. -/
theorem store_new (w : World) (x : List UInt8) (hx : x.length = 32) :
    Sem.run Tryd.prog (storeCells ⟨w.heap.size, 0, none⟩ (x.map bv) 0) (w.alloc (.cells z32 24)) = .ok () (w.alloc (.cells (x.map bv).toArray 24)) := by
  have := run_storeCells_new (P := Tryd.prog) w 24 z32 (x.map bv).toArray (by rw [info32]; simp [hx]) (by simp [hx]) (one_bv x)
  simpa using this
/-- A load of the id that was made last. -/
theorem load_new (w : World) (x : List UInt8) (hx : x.length = 32) :
    Sem.run Tryd.prog (loadCellsFrom ⟨w.heap.size, 0, none⟩ 0 32 #[]) (w.alloc (.cells (x.map bv).toArray 24)) = .ok (x.map bv).toArray (w.alloc (.cells (x.map bv).toArray 24)) :=
  run_loadCellsFrom_new w _ _ 32 (by simp [hx])
/-- 'string(id[:])' of 32 bytes that lie at a block's beginning. -/
theorem conv_id (w : World) (b o : Nat) (x : List UInt8) (hx : x.length = 32) (c : Nat) (hr : w.rangeAt b o (x.map bv)) :
    Sem.run Tryd.prog (convert 81 9 (.slice (some ⟨b, o, none⟩) 32 c)) w = .ok (.string ⟨x.toArray⟩) w := by
  have := run_convert_bytes_back (P := Tryd.prog) w 81 9 5 ⟨b, o, none⟩ c x Tryd.underlying81 Tryd.underlying5 Tryd.underlying9 (fun j hj => by
    rw [Addr.add_mid]
    refine hr j _ ?_
    rw [List.getElem?_map, List.getElem?_eq_getElem hj]
    rfl)
  rwa [hx] at this
theorem range_new (w : World) (cs : List Value) (t : TypeId) : (w.alloc (.cells cs.toArray t)).rangeAt w.heap.size 0 cs := by
  intro j v hj
  rw [Nat.zero_add, cell_of (heap_alloc_new w _)]
  simpa using hj
section
variable {ops : Array Oper} {rest : List Oper} {op : Oper} {a : Act} {w : World} {Q : Exit → Act → World → Prop}
/-- The operation 'load an id', at a plain region's list. -/
theorem wl_load (hgd : op.guard = none) {x : Operand} (ho : op.op = .load 24 x) {b o : Nat} (hx : a.eval x = .pointer (some ⟨b, o, none⟩)) {l : List UInt8} (hl : l.length = 32) (hr : w.rangeAt b o (l.map bv))
    (h : wpList Tryd.prog ops Q rest (a.put op.dst (idv l)) w) : wpList Tryd.prog ops Q (op :: rest) a w :=
  wpList_load_mid hgd _ x ho b o hx (l.map bv) _ hr Tryd.underlying24 rfl (by rw [info32, List.length_map, hl]) h
/-- The operation 'store an id' into the block that was made last. -/
theorem wl_store_new (hgd : op.guard = none) {x y : Operand} (ho : op.op = .store 24 x y) (hd : op.dst = none) {W : World} (hw : w = W.alloc (.cells z32 24)) (hx : a.eval x = .pointer (some ⟨W.heap.size, 0, none⟩)) {l : List UInt8} (hl : l.length = 32) (hy : a.eval y = idv l)
    (h : wpList Tryd.prog ops Q rest a (W.alloc (.cells (l.map bv).toArray 24))) : wpList Tryd.prog ops Q (op :: rest) a w :=
  wpList_plain hgd fun K hK => by
    subst hw
    unfold Oper.wp execOp
    simp only [ho, hx, hy, Sem.run_bind]
    rw [run_storeAt_new W 24 z32 (l.map bv).toArray (by rw [info32]; simp [hl]) (by simp [hl]) (one_bv l)]
    rw [Result.andThen_ok, Sem.run_pure]
    rw [Oper.upon_skip]
    rw [hd]
    exact hK _ _ h
end
end Ids
end Go.Proofs.YthllhjdaknmlbaaDoor


namespace Go.Proofs.YthllhjdaknmlbaaDoor
open Go.RowKit
theorem Keep.setRow {S : Nat → Prop} {a w : World} (h : Keep S a w) (g : Nat) (cs : Array Value) (hp : g < a.heap.size → S g) : Keep S a (w.setRow g cs) :=
  ⟨h.os, h.tape, h.output, by rw [setRow_size]; exact h.size, fun k hk hn => by
    rw [setRow_other w g k cs (fun e => hn (by rw [e]; exact hp (e ▸ hk)))]
    exact h.block k hk hn⟩
namespace Ids
open Oct

/-- What an id is that was read out of at most 32 bytes. -/
def pad (x : List UInt8) : List UInt8 := x ++ List.replicate (32 - x.length) 0
theorem pad_len (x : List UInt8) (h : x.length ≤ 32) : (pad x).length = 32 := by unfold pad; simp; omega
theorem pad_full (x : List UInt8) (h : x.length = 32) : pad x = x := by unfold pad; simp [h]
theorem z32_list : z32.toList = (List.replicate 32 (0 : UInt8)).map bv := rfl
theorem info8 : (Tryd.prog.info? 5).map (·.size) = some 1 := by kernel_rfl
theorem pad_cells (X : ByteArray) (hX : X.size ≤ 32) : (z32.toList.take 0 ++ Lib.byteCells X.data.toList ++ z32.toList.drop (0 + X.size)).toArray = ((pad X.data.toList).map bv).toArray := by
  congr 1
  have hl : X.data.toList.length = X.size := by rw [Array.length_toList]; rfl
  rw [z32_list, List.take_zero, List.nil_append, Nat.zero_add, ← List.map_drop, List.drop_replicate, show Lib.byteCells X.data.toList = X.data.toList.map bv from rfl, ← List.map_append]
  unfold pad
  rw [hl]
section
variable {ops : Array Oper} {rest : List Oper} {o : Oper} {a : Act} {w : World} {K : Act → World → Prop} {Q : Exit → Act → World → Prop}
/-- 'copy(id[:], s)' into an id that is zero. -/
theorem wp_copy {d s : Operand} (ho : o.op = .call { callee := .builtin .copy, args := #[d, s], argTypes := #[81, 9] }) {g c : Nat} (hd : a.eval d = .slice (some ⟨g, 0, none⟩) 32 c) {X : ByteArray} (hs : a.eval s = .string X) (hX : X.size ≤ 32)
    (hg : w.heap[g]? = some (.cells z32 24 (0, 0)))
    (h : ∀ w', w'.heap[g]? = some (.cells ((pad X.data.toList).map bv).toArray 24 (0, 0)) → Keep (fun k => k = g) w w' → K (a.put o.dst (goInt X.size)) w') : o.wp Tryd.prog a w K Q := by
  have hr := Lib.run_copy_row_string (P := Tryd.prog) w 81 9 o.type 5 g 0 32 c X z32 24 Tryd.underlying81 info8 hg hX (by show 0 + X.size ≤ 32; omega)
  rw [pad_cells X hX] at hr
  unfold Oper.wp execOp
  simp only [ho, resolve, invoke, builtin, Sem.run_bind, Sem.run_pure, Result.andThen_ok, List.map_toArray, List.map_cons, List.map_nil, hd, hs, hr]
  exact h _ (setRow_heap w g _ _ _ _ hg) ((Keep.refl _ _).setRow g _ (fun _ => rfl))
theorem info_full : (Tryd.prog.info? 24).map (fun i => (i.zero, i.size, i.bytes)) = some (some (.agg z32), 32, 32) := by kernel_rfl
theorem slId : SlT Tryd.prog 22 24 (.agg z32) 32 32 := SlT.mk' Tryd.underlying22 info_full rfl (by omega)
/-- The operation 'store an id' into a block that is one. -/
theorem wl_store (hgd : o.guard = none) {x y : Operand} (ho : o.op = .store 24 x y) (hd : o.dst = none) {g : Nat} {old : Array Value} (hx : a.eval x = .pointer (some ⟨g, 0, none⟩)) (hg : w.heap[g]? = some (.cells old 24 (0, 0))) (hol : old.size = 32) {l : List UInt8} (hl : l.length = 32) (hy : a.eval y = idv l)
    (h : wpList Tryd.prog ops Q rest a (w.setRow g (l.map bv).toArray)) : wpList Tryd.prog ops Q (o :: rest) a w :=
  wpList_plain hgd fun K hK => by
    have hr := run_storeVar_row (P := Tryd.prog) w g 24 24 old (l.map bv).toArray hg (by rw [info32]; simp [hl]) (by simp [hol, hl]) (one_bv l)
    unfold Oper.wp execOp
    simp only [ho, hx, hy, Instr.storeAt, Instr.sureAddr, Sem.run_bind, Sem.run_pure, Result.andThen_ok, hr]
    rw [Oper.upon_skip, hd]
    exact hK _ _ h
/-- What a function answers whose result is an id, in a variable of its own. -/
theorem res_id {fn : Func} {p : Tmp} (h : fn.results = #[.cell p 24]) (tmps : Array Value) (w : World) (g : Nat) (l : List UInt8) (hl : l.length = 32) (hp : tmps.getD p undef = .pointer (some ⟨g, 0, none⟩)) {fr : Nat × Nat} (hg : w.heap[g]? = some (.cells (l.map bv).toArray 24 fr)) :
    (results fn tmps).run Tryd.prog w = .ok (idv l) w :=
  results_cell_row h tmps w g _ _ fr _ hp hg Tryd.underlying24 rfl (by rw [info32]; simp [hl])
/-- '[]api.Id{id}'. -/
theorem run_build (w : World) (l : List UInt8) (hl : l.length = 32) : (Instr.buildSlice 22 1 #[(0, idv l)]).run Tryd.prog w = .ok (.slice (some ⟨w.heap.size, 0, none⟩) 1 1) (w.alloc (.cells (l.map bv).toArray 24)) := by
  obtain ⟨i, hi, hz, hs, _⟩ := slId.info
  have hf := Great.fill_whole (s := 32) (by omega) [idv l] ((Array.range (1 * i.size)).map ((Value.agg z32).cells[· % (Value.agg z32).cells.size]!)) (by intro v hv; simp only [List.mem_singleton] at hv; subst hv; show (l.map bv).toArray.size = 32; simp [hl]) (by simp [hs])
  have e : ([idv l].flatMap fun v => v.cells.toList).toArray = (l.map bv).toArray := by simp [idv, Value.cells]
  rw [e] at hf
  refine run_buildSlice (P := Tryd.prog) w _ 24 1 _ _ i (.agg z32) Tryd.underlying22 hi hz (by rw [hs]; decide) (by rw [hs]; decide) ?_
  rw [hs] at hf ⊢
  exact hf
theorem wp_build {x : Operand} (ho : o.op = .buildSlice 22 1 #[(0, x)]) {l : List UInt8} (hl : l.length = 32) (hx : a.eval x = idv l)
    (h : K (a.put o.dst (.slice (some ⟨w.heap.size, 0, none⟩) 1 1)) (w.alloc (.cells (l.map bv).toArray 24))) : o.wp Tryd.prog a w K Q := by
  unfold Oper.wp execOp
  simp only [ho, Sem.run_bind, List.map_toArray, List.map_cons, List.map_nil, hx, run_build w l hl, Result.andThen_ok]
  exact h
theorem wl_build (hgd : o.guard = none) {x : Operand} (ho : o.op = .buildSlice 22 1 #[(0, x)]) {l : List UInt8} (hl : l.length = 32) (hx : a.eval x = idv l)
    (h : wpList Tryd.prog ops Q rest (a.put o.dst (.slice (some ⟨w.heap.size, 0, none⟩) 1 1)) (w.alloc (.cells (l.map bv).toArray 24))) : wpList Tryd.prog ops Q (o :: rest) a w :=
  wpList_plain hgd fun _ hK => wp_build ho hl hx (hK _ _ h)
end
/-- A row of ids of one's own. -/
structure Own (w : World) (v : Value) (els : List (List UInt8)) : Prop where
  own : w.ownsRow 0 24 32 v els.length (els.flatten.map bv)
  size : ∀ x ∈ els, x.length = 32
theorem Own.nil (w : World) : Own w (.slice none 0 0) [] := ⟨⟨rfl, .inl ⟨rfl, rfl⟩⟩, by simp⟩
theorem Own.keep {w w' : World} {v : Value} {els : List (List UInt8)} (h : Own w v els) {S : Nat → Prop} (hk : Keep S w w') (hn : ∀ k, v.ownBlock = some k → ¬ S k) : Own w' v els := ⟨hk.row h.own hn, h.size⟩
theorem Own.lt {w : World} {v : Value} {els : List (List UInt8)} (h : Own w v els) {k : Nat} (hk : v.ownBlock = some k) : k < w.heap.size := (h.own.lt _ hk).2
theorem flat_at : ∀ (l : List (List UInt8)), (∀ x ∈ l, x.length = 32) → ∀ (i : Nat) (x : List UInt8), l[i]? = some x → ∀ j, j < 32 → l.flatten[i * 32 + j]? = x[j]?
  | [], _, i, x, h, _, _ => by simp at h
  | y :: l, hs, 0, x, h, j, hj => by
    simp only [List.getElem?_cons_zero, Option.some.injEq] at h
    subst h
    rw [List.flatten_cons, Nat.zero_mul, Nat.zero_add, List.getElem?_append_left (by rw [hs y (by simp)]; exact hj)]
  | y :: l, hs, i + 1, x, h, j, hj => by
    have hy := hs y (by simp)
    rw [List.flatten_cons, List.getElem?_append_right (by rw [hy]; omega), hy, show (i + 1) * 32 + j - 32 = i * 32 + j from by omega]
    exact flat_at l (fun z hz => hs z (by simp [hz])) i x (by simpa using h) j hj
theorem Own.at {w : World} {v : Value} {els : List (List UInt8)} (h : Own w v els) : ∃ a c, v = .slice a els.length c ∧ At w a els.length els ∧ (∀ b off, a = some ⟨b, off, none⟩ → v.ownBlock = some b) := by
  obtain ⟨hl, h1 | ⟨g, cap, cur, rfl, _, hg, hn, hc, hsz, htk⟩⟩ := h.own
  · obtain ⟨rfl, h0⟩ := h1
    obtain rfl : els = [] := List.eq_nil_of_length_eq_zero h0
    exact ⟨none, 0, rfl, ⟨rfl, by simp, Nat.zero_le _, .inl rfl⟩, by simp⟩
  · refine ⟨_, cap, rfl, ⟨rfl, h.size, by omega, .inr ⟨g, 0, rfl, lt_of_block hg, fun i x hi j v hj => ?_⟩⟩, fun b off e => by simp at e; simp [Value.ownBlock, e.1]⟩
    have hj' : j < 32 := by
      have := (List.getElem?_eq_some_iff.1 hj).1
      rw [List.length_map, h.size x (List.mem_of_getElem? hi)] at this
      exact this
    have hi' : i < els.length := (List.getElem?_eq_some_iff.1 hi).1
    rw [cell_of hg, Nat.zero_add, ← Array.getElem?_toList]
    have e1 : (cur.toList.take (els.length * 32))[i * 32 + j]? = cur.toList[i * 32 + j]? := by rw [List.getElem?_take, if_pos (by omega)]
    rw [← e1, htk, List.getElem?_map, flat_at els h.size i x hi j hj', ← List.getElem?_map]
    exact hj
section
variable {ops : Array Oper} {rest : List Oper} {o : Oper} {a : Act} {w : World} {K : Act → World → Prop} {Q : Exit → Act → World → Prop}
/-- 'append(out, id)'. -/
theorem wp_app1 {s x : Operand} (ho : o.op = .call { callee := .builtin .append, args := #[s, x], argTypes := #[22, 22] }) {v : Value} {els : List (List UInt8)} (hs : a.eval s = v) (hown : Own w v els)
    {g : Nat} (hx : a.eval x = .slice (some ⟨g, 0, none⟩) 1 1) {l : List UInt8} (hl : l.length = 32) {fr : Nat × Nat} (hg : w.heap[g]? = some (.cells (l.map bv).toArray 24 fr)) (hm : els.length ≤ 1000000)
    (h : ∀ v' w', Own w' v' (els ++ [l]) → Keep (fun k => v.ownBlock = some k) w w' → (v'.ownBlock = v.ownBlock ∨ v'.ownBlock = some w.heap.size) → K (a.put o.dst v') w') : o.wp Tryd.prog a w K Q := by
  refine wp_app slId ho (xs := els.flatten.map bv) (v := v) (n := els.length) hs hown.own (l.map bv) hx (by simp [hl]) (World.news_of_block hg) (by simp [bv, Value.oneCell']) (by unfold maxLen; omega) (by omega) ?_
  intro v' w' hA
  refine h v' w' ⟨?_, ?_⟩ hA.keep hA.at_
  · have e := hA.own
    rw [← List.map_append] at e
    simpa using e
  · intro y hy
    rcases List.mem_append.1 hy with hy | hy
    · exact hown.size y hy
    · rw [List.mem_singleton.1 hy]; exact hl
theorem wl_app1 (hgd : o.guard = none) {s x : Operand} (ho : o.op = .call { callee := .builtin .append, args := #[s, x], argTypes := #[22, 22] }) {v : Value} {els : List (List UInt8)} (hs : a.eval s = v) (hown : Own w v els)
    {g : Nat} (hx : a.eval x = .slice (some ⟨g, 0, none⟩) 1 1) {l : List UInt8} (hl : l.length = 32) {fr : Nat × Nat} (hg : w.heap[g]? = some (.cells (l.map bv).toArray 24 fr)) (hm : els.length ≤ 1000000)
    (h : ∀ v' w', Own w' v' (els ++ [l]) → Keep (fun k => v.ownBlock = some k) w w' → (v'.ownBlock = v.ownBlock ∨ v'.ownBlock = some w.heap.size) → wpList Tryd.prog ops Q rest (a.put o.dst v') w') : wpList Tryd.prog ops Q (o :: rest) a w :=
  wpList_plain hgd fun _ hK => wp_app1 ho hs hown hx hl hg hm fun v' w' h1 h2 h3 => hK _ _ (h v' w' h1 h2 h3)
end
end Ids
end Go.Proofs.YthllhjdaknmlbaaDoor


namespace Go.Proofs.YthllhjdaknmlbaaDoor
open Go.RowKit
namespace Ids
open Oct Ref

theorem xraw_32 (s : ByteArray) (e : Int) : (xraw s e 32).1.size ≤ 32 := by
  unfold xraw
  split
  · exact Nat.zero_le _
  · split
    · exact Nat.zero_le _
    · split
      · exact Nat.zero_le _
      · rw [ByteArray.size_extract]; omega
theorem pad_set (x : ByteArray) (k : Nat) (h : k < x.size) (h2 : x.size ≤ 32) : (pad (x.data.toList.take k)).set k x[k] = pad (x.data.toList.take (k + 1)) := by
  have hl : x.data.toList.length = x.size := by rw [Array.length_toList]; rfl
  have ht : x.data.toList.take (k + 1) = x.data.toList.take k ++ [x[k]] := by
    rw [List.take_succ_eq_append_getElem (by omega)]; rfl
  unfold pad
  rw [List.length_take, List.length_take, Nat.min_eq_left (by omega), Nat.min_eq_left (by omega)]
  rw [List.set_append_right _ _ (by rw [List.length_take]; omega), ht, List.append_assoc]
  congr 1
  rw [List.length_take, Nat.min_eq_left (by omega), Nat.sub_self, show 32 - k = (32 - (k + 1)) + 1 from by omega, List.replicate_succ]
  rfl
theorem pad_get (x : ByteArray) (k : Nat) (h : k < x.size) (h2 : x.size ≤ 32) : ((pad (x.data.toList.take k)).map bv).toArray[k]? = some (.int .u8 0) := by
  have hl : x.data.toList.length = x.size := by rw [Array.length_toList]; rfl
  unfold pad
  simp only [List.getElem?_toArray, List.map_append, List.length_take]
  rw [List.getElem?_append_right (by simp; omega)]
  simp only [List.length_map, List.length_take, List.map_replicate]
  rw [List.getElem?_replicate, if_pos (by omega)]
  rfl
end Ids
end Go.Proofs.YthllhjdaknmlbaaDoor


namespace Go.Proofs.YthllhjdaknmlbaaDoor
open Go.RowKit
namespace Ids
open Oct

/-- The ids that are read, where the reader stands, its error. -/
def rdIds (s : ByteArray) (a : Nat) (b : Int) : Nat → List (List UInt8) × Nat × Int
  | 0 => ([], a, b)
  | k + 1 => ((rdIds s a b k).1 ++ [pad (rraw s (rdIds s a b k).2.1 (rdIds s a b k).2.2 32).1.data.toList], (rraw s (rdIds s a b k).2.1 (rdIds s a b k).2.2 32).2.1, (rraw s (rdIds s a b k).2.1 (rdIds s a b k).2.2 32).2.2)
theorem rdIds_step {s : ByteArray} {a1 : Nat} {b1 : Int} {k : Nat} {l : List (List UInt8)} {a : Nat} {b : Int} {x : ByteArray} {a' : Nat} {b' : Int} (h : rdIds s a1 b1 k = (l, a, b)) (hx : rraw s a b 32 = (x, a', b')) :
    rdIds s a1 b1 (k + 1) = (l ++ [pad x.data.toList], a', b') := by
  unfold rdIds
  rw [h]
  simp only
  rw [hx]
theorem rdIds_len (s : ByteArray) (a : Nat) (b : Int) : ∀ k, (rdIds s a b k).1.length = k
  | 0 => rfl
  | k + 1 => by simp [rdIds, rdIds_len s a b k]
theorem rraw_32 (s : ByteArray) (a : Nat) (b : Int) : (rraw s a b 32).1.size ≤ 32 := by
  unfold rraw
  split
  · exact Nat.zero_le _
  · split
    · exact Nat.zero_le _
    · split
      · exact Nat.zero_le _
      · rw [ByteArray.size_extract]; omega
theorem rnum1_lt (s : ByteArray) (a : Nat) (b : Int) : (rnum s a b 1).1 < 256 := by
  unfold rnum
  split
  · exact (by decide : 0 < 256)
  · split
    · exact (by decide : 0 < 256)
    · refine Nat.lt_of_lt_of_le (natOf_lt _) (Nat.le_trans (Nat.pow_le_pow_right (by omega) (show (rraw s a 0 1).1.data.toList.length ≤ 1 from ?_)) (by decide))
      rw [Array.length_toList]
      show (rraw s a 0 1).1.size ≤ 1
      unfold rraw
      split
      · exact Nat.zero_le _
      · split
        · exact Nat.zero_le _
        · split
          · exact Nat.zero_le _
          · rw [ByteArray.size_extract]; omega
end Ids
end Go.Proofs.YthllhjdaknmlbaaDoor


namespace Go.Proofs.YthllhjdaknmlbaaDoor
open Go.RowKit
namespace Ref
open Oct Ids OctRd

/-- What the reader's end answers. -/
def endv (s : ByteArray) (a : Nat) (b : Int) : Int := if b = 0 then (if a = s.size then 0 else 4) else b
section
variable {w : World} {b : Nat} {s : ByteArray} {a : Nat} {bad : Int}
theorem rtext_le (s : ByteArray) (a : Nat) (bad m : Int) (h : a ≤ s.size) : (rtext s a bad m).2.1 ≤ s.size := by
  have h1 := rnum_le s a bad 2 h
  unfold rtext
  simp only
  split
  · exact h1
  · split
    · exact h1
    · exact rraw_le s _ _ _ h1
end
end Ref
end Go.Proofs.YthllhjdaknmlbaaDoor
