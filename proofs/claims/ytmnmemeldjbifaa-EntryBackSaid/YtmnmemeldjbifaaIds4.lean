/-
  Ids: copy out of a string, one id appended, rows of one's own.
-/
import Derived.Test.YtmnmemeldjbifaaIds3
import Derived.Test.YtmnmemeldjbifaaIds2
import Derived.Lib.BufferWrite
import Derived.Great.BuildSlice
set_option linter.unusedVariables false
set_option linter.unusedSimpArgs false
namespace Go.Proofs.Ytmnmemeldjbifaa
open Go.RowKit
theorem Keep.setRow {S : Nat → Prop} {a w : World} (h : Keep S a w) (g : Nat) (cs : Array Value) (hp : g < a.heap.size → S g) : Keep S a (w.setRow g cs) :=
  ⟨h.os, h.tape, h.output, by rw [setRow_size]; exact h.size, fun k hk hn => by
    rw [setRow_other w g k cs (fun e => hn (by rw [e]; exact hp (e ▸ hk)))]
    exact h.block k hk hn⟩
namespace Ids
open Oct

/-- What an id is that was read out of at most 32 bytes. -/
def pad (x : List UInt8) : List UInt8 := x ++ List.replicate (32 - x.length) 0
theorem pad_len (x : List UInt8) (h : x.length ≤ 32) : (pad x).length = 32 := by unfold pad; simp; omega
theorem pad_full (x : List UInt8) (h : x.length = 32) : pad x = x := by unfold pad; simp [h]
theorem z32_list : z32.toList = (List.replicate 32 (0 : UInt8)).map bv := rfl
theorem info8 : (Try.prog.info? 5).map (·.size) = some 1 := by kernel_rfl
theorem pad_cells (X : ByteArray) (hX : X.size ≤ 32) : (z32.toList.take 0 ++ Lib.byteCells X.data.toList ++ z32.toList.drop (0 + X.size)).toArray = ((pad X.data.toList).map bv).toArray := by
  congr 1
  have hl : X.data.toList.length = X.size := by rw [Array.length_toList]; rfl
  rw [z32_list, List.take_zero, List.nil_append, Nat.zero_add, ← List.map_drop, List.drop_replicate, show Lib.byteCells X.data.toList = X.data.toList.map bv from rfl, ← List.map_append]
  unfold pad
  rw [hl]
section
variable {ops : Array Oper} {rest : List Oper} {o : Oper} {a : Act} {w : World} {K : Act → World → Prop} {Q : Exit → Act → World → Prop}
/-- 'copy(id[:], s)' into an id that is zero. -/
theorem wp_copy {d s : Operand} (ho : o.op = .call { callee := .builtin .copy, args := #[d, s], argTypes := #[53, 9] }) {g c : Nat} (hd : a.eval d = .slice (some ⟨g, 0, none⟩) 32 c) {X : ByteArray} (hs : a.eval s = .string X) (hX : X.size ≤ 32)
    (hg : w.heap[g]? = some (.cells z32 41 (0, 0)))
    (h : ∀ w', w'.heap[g]? = some (.cells ((pad X.data.toList).map bv).toArray 41 (0, 0)) → Keep (fun k => k = g) w w' → K (a.put o.dst (goInt X.size)) w') : o.wp Try.prog a w K Q := by
  have hr := Lib.run_copy_row_string (P := Try.prog) w 53 9 o.type 5 g 0 32 c X z32 41 Try.underlying53 info8 hg hX (by show 0 + X.size ≤ 32; omega)
  rw [pad_cells X hX] at hr
  unfold Oper.wp execOp
  simp only [ho, resolve, invoke, builtin, Sem.run_bind, Sem.run_pure, Result.andThen_ok, List.map_toArray, List.map_cons, List.map_nil, hd, hs, hr]
  exact h _ (setRow_heap w g _ _ _ _ hg) ((Keep.refl _ _).setRow g _ (fun _ => rfl))
theorem info_full : (Try.prog.info? 41).map (fun i => (i.zero, i.size, i.bytes)) = some (some (.agg z32), 32, 32) := by kernel_rfl
theorem slId : SlT Try.prog 23 41 (.agg z32) 32 32 := SlT.mk' Try.underlying23 info_full rfl (by omega)
/-- The operation 'store an id' into a block that is one. -/
theorem wl_store (hgd : o.guard = none) {x y : Operand} (ho : o.op = .store 41 x y) (hd : o.dst = none) {g : Nat} {old : Array Value} (hx : a.eval x = .pointer (some ⟨g, 0, none⟩)) (hg : w.heap[g]? = some (.cells old 41 (0, 0))) (hol : old.size = 32) {l : List UInt8} (hl : l.length = 32) (hy : a.eval y = idv l)
    (h : wpList Try.prog ops Q rest a (w.setRow g (l.map bv).toArray)) : wpList Try.prog ops Q (o :: rest) a w :=
  wpList_plain hgd fun K hK => by
    have hr := run_storeVar_row (P := Try.prog) w g 41 41 old (l.map bv).toArray hg (by rw [info32]; simp [hl]) (by simp [hol, hl]) (one_bv l)
    unfold Oper.wp execOp
    simp only [ho, hx, hy, Instr.storeAt, Instr.sureAddr, Sem.run_bind, Sem.run_pure, Result.andThen_ok, hr]
    rw [Oper.upon_skip, hd]
    exact hK _ _ h
/-- What a function answers whose result is an id, in a variable of its own. -/
theorem res_id {fn : Func} {p : Tmp} (h : fn.results = #[.cell p 41]) (tmps : Array Value) (w : World) (g : Nat) (l : List UInt8) (hl : l.length = 32) (hp : tmps.getD p undef = .pointer (some ⟨g, 0, none⟩)) {fr : Nat × Nat} (hg : w.heap[g]? = some (.cells (l.map bv).toArray 41 fr)) :
    (results fn tmps).run Try.prog w = .ok (idv l) w :=
  results_cell_row h tmps w g _ _ fr _ hp hg Try.underlying41 rfl (by rw [info32]; simp [hl])
/-- '[]api.Id{id}'. -/
theorem run_build (w : World) (l : List UInt8) (hl : l.length = 32) : (Instr.buildSlice 23 1 #[(0, idv l)]).run Try.prog w = .ok (.slice (some ⟨w.heap.size, 0, none⟩) 1 1) (w.alloc (.cells (l.map bv).toArray 41)) := by
  obtain ⟨i, hi, hz, hs, _⟩ := slId.info
  have hf := Great.fill_whole (s := 32) (by omega) [idv l] ((Array.range (1 * i.size)).map ((Value.agg z32).cells[· % (Value.agg z32).cells.size]!)) (by intro v hv; simp only [List.mem_singleton] at hv; subst hv; show (l.map bv).toArray.size = 32; simp [hl]) (by simp [hs])
  have e : ([idv l].flatMap fun v => v.cells.toList).toArray = (l.map bv).toArray := by simp [idv, Value.cells]
  rw [e] at hf
  refine run_buildSlice (P := Try.prog) w _ 41 1 _ _ i (.agg z32) Try.underlying23 hi hz (by rw [hs]; decide) (by rw [hs]; decide) ?_
  rw [hs] at hf ⊢
  exact hf
theorem wp_build {x : Operand} (ho : o.op = .buildSlice 23 1 #[(0, x)]) {l : List UInt8} (hl : l.length = 32) (hx : a.eval x = idv l)
    (h : K (a.put o.dst (.slice (some ⟨w.heap.size, 0, none⟩) 1 1)) (w.alloc (.cells (l.map bv).toArray 41))) : o.wp Try.prog a w K Q := by
  unfold Oper.wp execOp
  simp only [ho, Sem.run_bind, List.map_toArray, List.map_cons, List.map_nil, hx, run_build w l hl, Result.andThen_ok]
  exact h
theorem wl_build (hgd : o.guard = none) {x : Operand} (ho : o.op = .buildSlice 23 1 #[(0, x)]) {l : List UInt8} (hl : l.length = 32) (hx : a.eval x = idv l)
    (h : wpList Try.prog ops Q rest (a.put o.dst (.slice (some ⟨w.heap.size, 0, none⟩) 1 1)) (w.alloc (.cells (l.map bv).toArray 41))) : wpList Try.prog ops Q (o :: rest) a w :=
  wpList_plain hgd fun _ hK => wp_build ho hl hx (hK _ _ h)
end
/-- A row of ids of one's own. -/
structure Own (w : World) (v : Value) (els : List (List UInt8)) : Prop where
  own : w.ownsRow 0 41 32 v els.length (els.flatten.map bv)
  size : ∀ x ∈ els, x.length = 32
theorem Own.nil (w : World) : Own w (.slice none 0 0) [] := ⟨⟨rfl, .inl ⟨rfl, rfl⟩⟩, by simp⟩
theorem Own.keep {w w' : World} {v : Value} {els : List (List UInt8)} (h : Own w v els) {S : Nat → Prop} (hk : Keep S w w') (hn : ∀ k, v.ownBlock = some k → ¬ S k) : Own w' v els := ⟨hk.row h.own hn, h.size⟩
theorem Own.lt {w : World} {v : Value} {els : List (List UInt8)} (h : Own w v els) {k : Nat} (hk : v.ownBlock = some k) : k < w.heap.size := (h.own.lt _ hk).2
theorem flat_at : ∀ (l : List (List UInt8)), (∀ x ∈ l, x.length = 32) → ∀ (i : Nat) (x : List UInt8), l[i]? = some x → ∀ j, j < 32 → l.flatten[i * 32 + j]? = x[j]?
  | [], _, i, x, h, _, _ => by simp at h
  | y :: l, hs, 0, x, h, j, hj => by
    simp only [List.getElem?_cons_zero, Option.some.injEq] at h
    subst h
    rw [List.flatten_cons, Nat.zero_mul, Nat.zero_add, List.getElem?_append_left (by rw [hs y (by simp)]; exact hj)]
  | y :: l, hs, i + 1, x, h, j, hj => by
    have hy := hs y (by simp)
    rw [List.flatten_cons, List.getElem?_append_right (by rw [hy]; omega), hy, show (i + 1) * 32 + j - 32 = i * 32 + j from by omega]
    exact flat_at l (fun z hz => hs z (by simp [hz])) i x (by simpa using h) j hj
theorem Own.at {w : World} {v : Value} {els : List (List UInt8)} (h : Own w v els) : ∃ a c, v = .slice a els.length c ∧ At w a els.length els ∧ (∀ b off, a = some ⟨b, off, none⟩ → v.ownBlock = some b) := by
  obtain ⟨hl, h1 | ⟨g, cap, cur, rfl, _, hg, hn, hc, hsz, htk⟩⟩ := h.own
  · obtain ⟨rfl, h0⟩ := h1
    obtain rfl : els = [] := List.eq_nil_of_length_eq_zero h0
    exact ⟨none, 0, rfl, ⟨rfl, by simp, Nat.zero_le _, .inl rfl⟩, by simp⟩
  · refine ⟨_, cap, rfl, ⟨rfl, h.size, by omega, .inr ⟨g, 0, rfl, lt_of_block hg, fun i x hi j v hj => ?_⟩⟩, fun b off e => by simp at e; simp [Value.ownBlock, e.1]⟩
    have hj' : j < 32 := by
      have := (List.getElem?_eq_some_iff.1 hj).1
      rw [List.length_map, h.size x (List.mem_of_getElem? hi)] at this
      exact this
    have hi' : i < els.length := (List.getElem?_eq_some_iff.1 hi).1
    rw [cell_of hg, Nat.zero_add, ← Array.getElem?_toList]
    have e1 : (cur.toList.take (els.length * 32))[i * 32 + j]? = cur.toList[i * 32 + j]? := by rw [List.getElem?_take, if_pos (by omega)]
    rw [← e1, htk, List.getElem?_map, flat_at els h.size i x hi j hj', ← List.getElem?_map]
    exact hj
section
variable {ops : Array Oper} {rest : List Oper} {o : Oper} {a : Act} {w : World} {K : Act → World → Prop} {Q : Exit → Act → World → Prop}
/-- 'append(out, id)'. -/
theorem wp_app1 {s x : Operand} (ho : o.op = .call { callee := .builtin .append, args := #[s, x], argTypes := #[23, 23] }) {v : Value} {els : List (List UInt8)} (hs : a.eval s = v) (hown : Own w v els)
    {g : Nat} (hx : a.eval x = .slice (some ⟨g, 0, none⟩) 1 1) {l : List UInt8} (hl : l.length = 32) {fr : Nat × Nat} (hg : w.heap[g]? = some (.cells (l.map bv).toArray 41 fr)) (hm : els.length ≤ 1000000)
    (h : ∀ v' w', Own w' v' (els ++ [l]) → Keep (fun k => v.ownBlock = some k) w w' → (v'.ownBlock = v.ownBlock ∨ v'.ownBlock = some w.heap.size) → K (a.put o.dst v') w') : o.wp Try.prog a w K Q := by
  refine wp_app slId ho (xs := els.flatten.map bv) (v := v) (n := els.length) hs hown.own (l.map bv) hx (by simp [hl]) (World.news_of_block hg) (by simp [bv, Value.oneCell']) (by unfold maxLen; omega) (by omega) ?_
  intro v' w' hA
  refine h v' w' ⟨?_, ?_⟩ hA.keep hA.at_
  · have e := hA.own
    rw [← List.map_append] at e
    simpa using e
  · intro y hy
    rcases List.mem_append.1 hy with hy | hy
    · exact hown.size y hy
    · rw [List.mem_singleton.1 hy]; exact hl
theorem wl_app1 (hgd : o.guard = none) {s x : Operand} (ho : o.op = .call { callee := .builtin .append, args := #[s, x], argTypes := #[23, 23] }) {v : Value} {els : List (List UInt8)} (hs : a.eval s = v) (hown : Own w v els)
    {g : Nat} (hx : a.eval x = .slice (some ⟨g, 0, none⟩) 1 1) {l : List UInt8} (hl : l.length = 32) {fr : Nat × Nat} (hg : w.heap[g]? = some (.cells (l.map bv).toArray 41 fr)) (hm : els.length ≤ 1000000)
    (h : ∀ v' w', Own w' v' (els ++ [l]) → Keep (fun k => v.ownBlock = some k) w w' → (v'.ownBlock = v.ownBlock ∨ v'.ownBlock = some w.heap.size) → wpList Try.prog ops Q rest (a.put o.dst v') w') : wpList Try.prog ops Q (o :: rest) a w :=
  wpList_plain hgd fun _ hK => wp_app1 ho hs hown hx hl hg hm fun v' w' h1 h2 h3 => hK _ _ (h v' w' h1 h2 h3)
end
end Ids
end Go.Proofs.Ytmnmemeldjbifaa
