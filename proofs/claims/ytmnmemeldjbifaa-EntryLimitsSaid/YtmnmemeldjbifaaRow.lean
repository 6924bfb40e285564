/-
  Operations on whole structs: made, stored, loaded, appended; rows of structs.
-/
import Derived.Test.YtmnmemeldjbifaaMem
import Derived.Deep.Cut
import Derived.Sort.AtCall
set_option linter.unusedVariables false
set_option linter.unusedSimpArgs false
namespace Go.Proofs.Ytmnmemeldjbifaa
open Go.RowKit
namespace St
open Oct

/-- A struct type: how many cells, which are zero's. -/
structure Ty (T : TypeId) (n : Nat) (Z : Array Value) : Prop where
  und : ∃ d, Try.prog.underlying T = some d ∧ (match d with | .struct _ | .array _ _ => true | _ => false) = true
  info : (Try.prog.info? T).map (fun i => (i.zero, i.size)) = some (some (.agg Z), n)
  size : Z.size = n
section
variable {T : TypeId} {n : Nat} {Z : Array Value}
theorem Ty.sz (h : Ty T n Z) : (Try.prog.info? T).map (·.size) = some n := by
  have := h.info
  cases hq : Try.prog.info? T with
  | none => rw [hq] at this; cases this
  | some i =>
    rw [hq] at this
    simp only [Option.map_some, Option.some.injEq, Prod.mk.injEq] at this
    simp [this.2]
theorem Ty.zero (h : Ty T n Z) (w : World) : (zeroValue T).run Try.prog w = .ok (.agg Z) w := (zero_of_info h.info).1 w
variable {ops : Array Oper} {rest : List Oper} {o : Oper} {a : Act} {w : World} {K : Act → World → Prop} {Q : Exit → Act → World → Prop}
theorem wp_alloc (hT : Ty T n Z) (ho : o.op = .alloc T) (h : K (a.put o.dst (.pointer (some ⟨w.heap.size, 0, none⟩))) (w.alloc (.cells Z T))) : o.wp Try.prog a w K Q := by
  unfold Oper.wp execOp
  simp only [ho, Instr.alloc, Sem.run_bind, hT.zero, Result.andThen_ok]
  simp [go_sem, newVar, Value.cells]
  exact h
theorem wl_alloc (hT : Ty T n Z) (hgd : o.guard = none) (ho : o.op = .alloc T) {b : Nat} (hb : w.heap.size = b) (h : wpList Try.prog ops Q rest (a.put o.dst (.pointer (some ⟨b, 0, none⟩))) (w.alloc (.cells Z T))) : wpList Try.prog ops Q (o :: rest) a w :=
  wpList_plain hgd fun _ hK => wp_alloc hT ho (hK _ _ (by subst hb; exact h))
/-- A struct made of its parts. -/
theorem wl_buildV {parts : Array (Nat × Operand)} (hgd : o.guard = none) (ho : o.op = .build T parts) {cs : Array Value} (hb : Try.prog.built T (parts.map fun (i, x) => (i, a.eval x)).toList = some cs) (h : wpList Try.prog ops Q rest (a.put o.dst (.agg cs)) w) : wpList Try.prog ops Q (o :: rest) a w :=
  wpList_build hgd T parts ho (by rw [hb]; rfl) (by rw [hb]; exact h)
/-- A store into the block that was made last. -/
theorem wp_storeN (hT : Ty T n Z) {x y : Operand} (ho : o.op = .store T x y) (hd : o.dst = none) {W : World} {old cs : Array Value} (hw : w = W.alloc (.cells old T)) {b : Nat} (hx : a.eval x = .pointer (some ⟨b, 0, none⟩)) (hb : W.heap.size = b) (hy : a.eval y = .agg cs)
    (hcs : cs.size = n) (hol : old.size = n) (hall : cs.all (·.oneCell') = true) (h : K a (W.alloc (.cells cs T))) : o.wp Try.prog a w K Q := by
  subst hw hb
  unfold Oper.wp execOp
  simp only [ho, hx, hy, Sem.run_bind]
  rw [run_storeAt_new W T old cs (by rw [hT.sz, hcs]) (by rw [hol, hcs]) hall]
  rw [Result.andThen_ok, Sem.run_pure, Oper.upon_skip, hd]
  exact h
theorem wl_storeN (hT : Ty T n Z) (hgd : o.guard = none) {x y : Operand} (ho : o.op = .store T x y) (hd : o.dst = none) {W : World} {old cs : Array Value} (hw : w = W.alloc (.cells old T)) {b : Nat} (hx : a.eval x = .pointer (some ⟨b, 0, none⟩)) (hb : W.heap.size = b) (hy : a.eval y = .agg cs)
    (hcs : cs.size = n) (hol : old.size = n) (hall : cs.all (·.oneCell') = true) (h : wpList Try.prog ops Q rest a (W.alloc (.cells cs T))) : wpList Try.prog ops Q (o :: rest) a w :=
  wpList_plain hgd fun _ hK => wp_storeN hT ho hd hw hx hb hy hcs hol hall (hK _ _ h)
/-- A store into a block that is known whole. -/
theorem wp_store (hT : Ty T n Z) {x y : Operand} (ho : o.op = .store T x y) (hd : o.dst = none) {g : Nat} {old cs : Array Value} (hx : a.eval x = .pointer (some ⟨g, 0, none⟩)) (hy : a.eval y = .agg cs)
    (hcs : cs.size = n) (hall : cs.all (·.oneCell') = true) (hg : w.heap[g]? = some (.cells old T (0, 0))) (hol : old.size = n) (h : K a (w.setRow g cs)) : o.wp Try.prog a w K Q := by
  have hr := run_storeVar_row (P := Try.prog) w g T T old cs hg (by rw [hT.sz, hcs]) (by rw [hol, hcs]) hall
  unfold Oper.wp execOp
  simp only [ho, hx, hy, Instr.storeAt, Instr.sureAddr, Sem.run_bind, Sem.run_pure, Result.andThen_ok, hr]
  rw [Oper.upon_skip, hd]
  exact h
theorem wl_store (hT : Ty T n Z) (hgd : o.guard = none) {x y : Operand} (ho : o.op = .store T x y) (hd : o.dst = none) {g : Nat} {old cs : Array Value} (hx : a.eval x = .pointer (some ⟨g, 0, none⟩)) (hy : a.eval y = .agg cs)
    (hcs : cs.size = n) (hall : cs.all (·.oneCell') = true) (hg : w.heap[g]? = some (.cells old T (0, 0))) (hol : old.size = n) (h : wpList Try.prog ops Q rest a (w.setRow g cs)) : wpList Try.prog ops Q (o :: rest) a w :=
  wpList_plain hgd fun _ hK => wp_store hT ho hd hx hy hcs hall hg hol (hK _ _ h)
/-- A store into the middle of a block. -/
theorem wp_storeMid (hT : Ty T n Z) {x y : Operand} (ho : o.op = .store T x y) (hd : o.dst = none) {g i : Nat} {t : TypeId} {old cs new : Array Value} (hx : a.eval x = .pointer (some ⟨g, i, none⟩)) (hy : a.eval y = .agg cs)
    (hcs : cs.size = n) (hall : cs.all (·.oneCell') = true) (hg : w.heap[g]? = some (.cells old t (0, 0))) (hol : i + n ≤ old.size) (hn : (old.toList.take i ++ cs.toList ++ old.toList.drop (i + n)).toArray = new) (h : K a (w.setRow g new)) : o.wp Try.prog a w K Q := by
  have hst := run_storeCells_at Try.prog g i t cs.toList 0 old w hg (by simp [hcs]; exact hol) (fun v hv => (Array.all_eq_true_iff_forall_mem.1 hall) v (by simpa using hv))
  have hl : cs.toList.length = n := by simpa using hcs
  simp only [Nat.add_zero, hl] at hst
  rw [hn] at hst
  have hr : (storeVar T ⟨g, i, none⟩ (.agg cs)).run Try.prog w = .ok () (w.setRow g new) := by
    have hsz := hT.sz
    cases hq : Try.prog.info? T with
    | none => simp [hq] at hsz
    | some q =>
      have hs : cs.size = q.size := by simp [hq] at hsz; omega
      simp [storeVar, sizeOf, typeInfo, hq, Value.cells, hs, hst]
  unfold Oper.wp execOp
  simp only [ho, hx, hy, Instr.storeAt, Instr.sureAddr, Sem.run_bind, Sem.run_pure, Result.andThen_ok, hr]
  rw [Oper.upon_skip, hd]
  exact h
theorem wl_storeMid (hT : Ty T n Z) (hgd : o.guard = none) {x y : Operand} (ho : o.op = .store T x y) (hd : o.dst = none) {g i : Nat} {t : TypeId} {old cs new : Array Value} (hx : a.eval x = .pointer (some ⟨g, i, none⟩)) (hy : a.eval y = .agg cs)
    (hcs : cs.size = n) (hall : cs.all (·.oneCell') = true) (hg : w.heap[g]? = some (.cells old t (0, 0))) (hol : i + n ≤ old.size) (hn : (old.toList.take i ++ cs.toList ++ old.toList.drop (i + n)).toArray = new) (h : wpList Try.prog ops Q rest a (w.setRow g new)) : wpList Try.prog ops Q (o :: rest) a w :=
  wpList_plain hgd fun _ hK => wp_storeMid hT ho hd hx hy hcs hall hg hol hn (hK _ _ h)
/-- A load, guarded or not. -/
theorem wl_load (hT : Ty T n Z) (hw : Region.wanted o (yielded ops a.tmps) = true) {x : Operand} (ho : o.op = .load T x) {b i : Nat} (hx : a.eval x = .pointer (some ⟨b, i, none⟩)) {cs : List Value} (hr : w.rangeAt b i cs) (hcs : cs.length = n)
    (h : wpList Try.prog ops Q rest (a.put o.dst (.agg cs.toArray)) w) : wpList Try.prog ops Q (o :: rest) a w :=
  wpList_step fun K hK => by
    rw [if_pos hw]
    obtain ⟨d, hu, hd⟩ := hT.und
    exact wp_load_mid _ x ho b i hx cs _ hr hu (by cases d <;> simp_all) (by rw [hT.sz, hcs]) (hK _ _ h)
/-- What a function answers whose result is a struct, in a variable of its own. -/
theorem res1 (hT : Ty T n Z) {fn : Func} {p : Tmp} (h : fn.results = #[.cell p T]) (tmps : Array Value) (w : World) (g : Nat) (cs : Array Value) (hc : cs.size = n) (hp : tmps.getD p undef = .pointer (some ⟨g, 0, none⟩)) {fr : Nat × Nat} (hg : w.heap[g]? = some (.cells cs T fr)) :
    (results fn tmps).run Try.prog w = .ok (.agg cs) w := by
  obtain ⟨d, hu, hd⟩ := hT.und
  exact results_cell_row h tmps w g _ _ fr d hp hg hu (by cases d <;> simp_all) (by rw [hT.sz, hc])
/-- .. whose first result is a struct, in a variable of its own. -/
theorem res2 (hT : Ty T n Z) {fn : Func} {p q : Tmp} (h : fn.results = #[.cell p T, .tmp q]) (tmps : Array Value) (w : World) (g : Nat) (cs : Array Value) (hc : cs.size = n) (hp : tmps.getD p undef = .pointer (some ⟨g, 0, none⟩)) {fr : Nat × Nat} (hg : w.heap[g]? = some (.cells cs T fr)) (e : Value) (hq : tmps.getD q undef = e) :
    (results fn tmps).run Try.prog w = .ok (.tuple #[.agg cs, e]) w := by
  have hp' : tmps[p]?.getD undef = .pointer (some ⟨g, 0, none⟩) := by simpa using hp
  have hq' : tmps[q]?.getD undef = e := by simpa using hq
  obtain ⟨d, hu, hd⟩ := hT.und
  simp [results, h, hp', hq', asAddr, run_loadVar_row w g _ _ cs fr _ hg hu (by cases d <;> simp_all) (by rw [hT.sz, hc])]
end
end St
end Go.Proofs.Ytmnmemeldjbifaa
