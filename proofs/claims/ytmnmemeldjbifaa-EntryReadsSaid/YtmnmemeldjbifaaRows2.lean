/-
  Rows of structs: of one's own, in memory; made of one, appended to.
-/
import Derived.Test.YtmnmemeldjbifaaRow
set_option linter.unusedVariables false
set_option linter.unusedSimpArgs false
namespace Go.Proofs.Ytmnmemeldjbifaa
open Go.RowKit
namespace St
open Oct

/-- A row of structs, in memory. -/
structure At {α : Type} (n : Nat) (enc : α → List Value) (w : World) (a : Option Addr) (k : Nat) (els : List α) : Prop where
  len : els.length = k
  most : k ≤ maxLen
  lay : k = 0 ∨ ∃ b off, a = some ⟨b, off, none⟩ ∧ b < w.heap.size ∧ ∀ i x, els[i]? = some x → w.rangeAt b (off + i * n) (enc x)
/-- A row of structs of one's own. -/
structure Own {α : Type} (T : TypeId) (n : Nat) (enc : α → List Value) (w : World) (v : Value) (els : List α) : Prop where
  own : w.ownsRow 0 T n v els.length (els.flatMap enc)
  size : ∀ x ∈ els, (enc x).length = n
section
variable {α : Type} {T t : TypeId} {n bytes : Nat} {enc : α → List Value} {w w' : World} {v : Value} {els : List α}
theorem At.keep {a : Option Addr} {k : Nat} (h : At n enc w a k els) {S : Nat → Prop} (hk : Keep S w w') (hn : ∀ b off, a = some ⟨b, off, none⟩ → ¬ S b) : At n enc w' a k els := by
  refine ⟨h.len, h.most, h.lay.imp id ?_⟩
  rintro ⟨b, off, ha, hb, hr⟩
  exact ⟨b, off, ha, Nat.lt_of_lt_of_le hb hk.size, fun i x hi => hk.range hb (hn b off ha) (hr i x hi)⟩
theorem At.calm {a : Option Addr} {k : Nat} (h : At n enc w a k els) (hk : Keep (fun _ => False) w w') : At n enc w' a k els := h.keep hk (fun _ _ _ h => h)
theorem Own.nil (T : TypeId) (n : Nat) (enc : α → List Value) (w : World) : Own T n enc w (.slice none 0 0) [] := ⟨⟨by simp, .inl ⟨rfl, rfl⟩⟩, by simp⟩
theorem Own.keep (h : Own T n enc w v els) {S : Nat → Prop} (hk : Keep S w w') (hn : ∀ k, v.ownBlock = some k → ¬ S k) : Own T n enc w' v els := ⟨hk.row h.own hn, h.size⟩
theorem Own.lt (h : Own T n enc w v els) {k : Nat} (hk : v.ownBlock = some k) : k < w.heap.size := (h.own.lt _ hk).2
theorem flat_at (enc : α → List Value) : ∀ (l : List α), (∀ x ∈ l, (enc x).length = n) → ∀ (i : Nat) (x : α), l[i]? = some x → ∀ j, j < n → (l.flatMap enc)[i * n + j]? = (enc x)[j]?
  | [], _, i, x, h, _, _ => by simp at h
  | y :: l, hs, 0, x, h, j, hj => by
    simp only [List.getElem?_cons_zero, Option.some.injEq] at h
    subst h
    rw [List.flatMap_cons, Nat.zero_mul, Nat.zero_add, List.getElem?_append_left (by rw [hs y (by simp)]; exact hj)]
  | y :: l, hs, i + 1, x, h, j, hj => by
    have hy := hs y (by simp)
    rw [List.flatMap_cons, List.getElem?_append_right (by rw [hy, Nat.succ_mul]; omega), hy, show (i + 1) * n + j - n = i * n + j from by rw [Nat.succ_mul]; omega]
    exact flat_at enc l (fun z hz => hs z (by simp [hz])) i x (by simpa using h) j hj
theorem Own.at (h : Own T n enc w v els) : ∃ a c, v = .slice a els.length c ∧ At n enc w a els.length els ∧ (∀ b off, a = some ⟨b, off, none⟩ → v.ownBlock = some b) := by
  obtain ⟨hl, h1 | ⟨g, cap, cur, rfl, _, hg, hn, hc, hsz, htk⟩⟩ := h.own
  · obtain ⟨rfl, h0⟩ := h1
    obtain rfl : els = [] := List.eq_nil_of_length_eq_zero h0
    exact ⟨none, 0, rfl, ⟨rfl, Nat.zero_le _, .inl rfl⟩, by simp⟩
  · refine ⟨_, cap, rfl, ⟨rfl, by omega, .inr ⟨g, 0, rfl, lt_of_block hg, fun i x hi j v hj => ?_⟩⟩, fun b off e => by simp at e; simp [Value.ownBlock, e.1]⟩
    have hj' : j < n := by
      have := (List.getElem?_eq_some_iff.1 hj).1
      rw [h.size x (List.mem_of_getElem? hi)] at this
      exact this
    have hi' : i < els.length := (List.getElem?_eq_some_iff.1 hi).1
    rw [cell_of hg, Nat.zero_add, ← Array.getElem?_toList]
    have hb : i * n + j < els.length * n := by
      have := Nat.mul_le_mul_right n (show i + 1 ≤ els.length from hi')
      rw [Nat.succ_mul] at this
      omega
    have e1 : (cur.toList.take (els.length * n))[i * n + j]? = cur.toList[i * n + j]? := by rw [List.getElem?_take, if_pos hb]
    rw [← e1, htk, flat_at enc els h.size i x hi j hj']
    exact hj
theorem Own.slice {a : Option Addr} {k c : Nat} (h : Own T n enc w (.slice a k c) els) : k = els.length ∧ At n enc w a els.length els := by
  obtain ⟨a', c', e, h1, _⟩ := h.at
  simp only [Value.slice.injEq] at e
  obtain ⟨rfl, rfl, rfl⟩ := e
  exact ⟨rfl, h1⟩
variable {ops : Array Oper} {rest : List Oper} {o : Oper} {a : Act} {K : Act → World → Prop} {Q : Exit → Act → World → Prop} {Z : Array Value}
/-- '[]T{x}'. -/
theorem run_build (hsl : SlT Try.prog t T (.agg Z) n bytes) (hnn : n ≤ 10000) (w : World) (cs : List Value) (hl : cs.length = n) : (Instr.buildSlice t 1 #[(0, .agg cs.toArray)]).run Try.prog w = .ok (.slice (some ⟨w.heap.size, 0, none⟩) 1 1) (w.alloc (.cells cs.toArray T)) := by
  obtain ⟨i, hi, hz, hs, _⟩ := hsl.info
  have hpos := hsl.pos
  have hf := Great.fill_whole (s := n) hpos [.agg cs.toArray] ((Array.range (1 * i.size)).map ((Value.agg Z).cells[· % (Value.agg Z).cells.size]!)) (by intro v hv; simp only [List.mem_singleton] at hv; subst hv; show cs.toArray.size = n; simp [hl]) (by simp [hs])
  have e : ([Value.agg cs.toArray].flatMap fun v => v.cells.toList).toArray = cs.toArray := by simp [Value.cells]
  rw [e] at hf
  refine run_buildSlice (P := Try.prog) w _ T 1 _ _ i (.agg Z) hsl.und hi hz (by rw [hs]; omega) (by rw [hs]; omega) ?_
  rw [hs] at hf ⊢
  exact hf
theorem wp_build (hsl : SlT Try.prog t T (.agg Z) n bytes) (hnn : n ≤ 10000) {x : Operand} (ho : o.op = .buildSlice t 1 #[(0, x)]) {cs : List Value} (hl : cs.length = n) (hx : a.eval x = .agg cs.toArray)
    (h : K (a.put o.dst (.slice (some ⟨w.heap.size, 0, none⟩) 1 1)) (w.alloc (.cells cs.toArray T))) : o.wp Try.prog a w K Q := by
  unfold Oper.wp execOp
  simp only [ho, Sem.run_bind, List.map_toArray, List.map_cons, List.map_nil, hx, run_build hsl hnn w cs hl, Result.andThen_ok]
  exact h
theorem wl_build (hsl : SlT Try.prog t T (.agg Z) n bytes) (hnn : n ≤ 10000) (hgd : o.guard = none) {x : Operand} (ho : o.op = .buildSlice t 1 #[(0, x)]) {cs : List Value} (hl : cs.length = n) (hx : a.eval x = .agg cs.toArray)
    (h : wpList Try.prog ops Q rest (a.put o.dst (.slice (some ⟨w.heap.size, 0, none⟩) 1 1)) (w.alloc (.cells cs.toArray T))) : wpList Try.prog ops Q (o :: rest) a w :=
  wpList_plain hgd fun _ hK => wp_build hsl hnn ho hl hx (hK _ _ h)
/-- 'append(out, x)'. -/
theorem wp_app1 (hsl : SlT Try.prog t T (.agg Z) n bytes) (hby : bytes ≤ 100000) {s x : Operand} (ho : o.op = .call { callee := .builtin .append, args := #[s, x], argTypes := #[t, t] }) {v : Value} {els : List α} (hs : a.eval s = v) (hown : Own T n enc w v els)
    {g : Nat} (hx : a.eval x = .slice (some ⟨g, 0, none⟩) 1 1) {y : α} (hl : (enc y).length = n) (h1 : (enc y).toArray.all (·.oneCell') = true) {fr : Nat × Nat} (hg : w.heap[g]? = some (.cells (enc y).toArray T fr)) (hm : els.length ≤ 1000000)
    (h : ∀ v' w', Own T n enc w' v' (els ++ [y]) → Keep (fun k => v.ownBlock = some k) w w' → (v'.ownBlock = v.ownBlock ∨ v'.ownBlock = some w.heap.size) → K (a.put o.dst v') w') : o.wp Try.prog a w K Q := by
  have hbb : (els.length + 1) * bytes ≤ 140737488355328 := Nat.le_trans (Nat.mul_le_mul (show els.length + 1 ≤ 1000001 by omega) hby) (by decide)
  refine wp_app hsl ho (xs := els.flatMap enc) (v := v) (n := els.length) hs hown.own (enc y) hx (by simp [hl]) (World.news_of_block hg) (fun u hu => (Array.all_eq_true_iff_forall_mem.1 h1) u (by simpa using hu)) (by unfold maxLen; omega) hbb ?_
  intro v' w' hA
  refine h v' w' ⟨?_, ?_⟩ hA.keep hA.at_
  · have e := hA.own
    simpa using e
  · intro z hz
    rcases List.mem_append.1 hz with hz | hz
    · exact hown.size z hz
    · rw [List.mem_singleton.1 hz]; exact hl
theorem wl_app1 (hsl : SlT Try.prog t T (.agg Z) n bytes) (hby : bytes ≤ 100000) (hgd : o.guard = none) {s x : Operand} (ho : o.op = .call { callee := .builtin .append, args := #[s, x], argTypes := #[t, t] }) {v : Value} {els : List α} (hs : a.eval s = v) (hown : Own T n enc w v els)
    {g : Nat} (hx : a.eval x = .slice (some ⟨g, 0, none⟩) 1 1) {y : α} (hl : (enc y).length = n) (h1 : (enc y).toArray.all (·.oneCell') = true) {fr : Nat × Nat} (hg : w.heap[g]? = some (.cells (enc y).toArray T fr)) (hm : els.length ≤ 1000000)
    (h : ∀ v' w', Own T n enc w' v' (els ++ [y]) → Keep (fun k => v.ownBlock = some k) w w' → (v'.ownBlock = v.ownBlock ∨ v'.ownBlock = some w.heap.size) → wpList Try.prog ops Q rest (a.put o.dst v') w') : wpList Try.prog ops Q (o :: rest) a w :=
  wpList_plain hgd fun _ hK => wp_app1 hsl hby ho hs hown hx hl h1 hg hm fun v' w' h1 h2 h3 => hK _ _ (h v' w' h1 h2 h3)
theorem results_tmp3 {fn : Func} {p q r : Tmp} (h : fn.results = #[.tmp p, .tmp q, .tmp r]) (tmps : Array Value) (w : World) (x y z : Value) (hp : tmps.getD p undef = x) (hq : tmps.getD q undef = y) (hr : tmps.getD r undef = z) : (results fn tmps).run Try.prog w = .ok (.tuple #[x, y, z]) w := by
  have hp' : tmps[p]?.getD undef = x := by simpa using hp
  have hq' : tmps[q]?.getD undef = y := by simpa using hq
  have hr' : tmps[r]?.getD undef = z := by simpa using hr
  simp [results, h, hp', hq', hr']
end
end St
namespace Mem
/-- Structs of one's own. -/
def rows {α : Type} (T : TypeId) (n : Nat) (enc : α → List Value) (v : Value) (els : List α) : It := ⟨fun k => v.ownBlock = some k, fun w => St.Own T n enc w v els, fun _ _ _ h k n => h.keep k n⟩
section
variable {α : Type} {T : TypeId} {n : Nat} {enc : α → List Value} {F : Nat → Prop} {w0 w w' : World} {l : List It}
theorem M.appR (h : M F w0 w l) (i : Nat) {v v' : Value} {els els' : List α} (hi : l[i]? = some (rows T n enc v els)) (h1 : St.Own T n enc w' v' els') (k : Keep (fun k => v.ownBlock = some k) w w') (h3 : v'.ownBlock = v.ownBlock ∨ v'.ownBlock = some w.heap.size) : M F w0 w' (l.set i (rows T n enc v' els')) :=
  h.upd i hi k (fun _ h => h) (y := rows T n enc v' els') h1 (own_foot h3 fun k hk => h1.lt hk)
theorem M.nilR (h : M F w0 w l) (T : TypeId) (n : Nat) (enc : α → List Value) : M F w0 w (l ++ [rows T n enc (.slice none 0 0) []]) := h.add (x := rows T n enc (.slice none 0 0) []) (Keep.refl _ _) (St.Own.nil T n enc w) (fun k hk => by simp [rows, Value.ownBlock] at hk)
end
end Mem
end Go.Proofs.Ytmnmemeldjbifaa
