/-
  Rows of whatever lies in as many cells each: appended to; those of ids and of numbers told as such.
-/
import Derived.Test.YthllhjdaknmlbaaDoorRows3
set_option linter.unusedVariables false
set_option linter.unusedSimpArgs false
namespace Go.Proofs.YthllhjdaknmlbaaDoor
open Go.RowKit
namespace St
open Oct
section
variable {α : Type} {T t : TypeId} {n bytes : Nat} {enc : α → List Value} {w w' : World} {v : Value} {els : List α} {z : Value}
theorem At.srcz (hE : Enc n enc) (hsl : SlT Tryd.prog t T z n bytes) {a : Option Addr} {k : Nat} (h : At n enc w a k els) (c : Nat) : Src Tryd.prog n t (.slice a k c) k (els.flatMap enc) w := by
  have hl : (els.flatMap enc).length = k * n := by rw [hE.flat, h.len]
  have h1 : ∀ u ∈ els.flatMap enc, u.oneCell' = true := by
    intro u hu
    obtain ⟨x, _, hx⟩ := List.mem_flatMap.1 hu
    exact hE.one x u hx
  rcases h.lay with hn | ⟨b, off, rfl, hb, hr⟩
  · subst hn
    have he : els = [] := List.eq_nil_of_length_eq_zero h.len
    subst he
    cases a with
    | none => exact Src.ofNil w hsl.und c
    | some ad => exact Src.ofSlice w hsl.und ad 0 c [] (by simp) (fun j u hj => by simp at hj) (by simp)
  · refine Src.ofSlice w hsl.und ⟨b, off, none⟩ k c _ hl (fun j u hj => ?_) h1
    have hpos := hsl.pos
    have hj' : j < k * n := by rw [← hl]; exact (List.getElem?_eq_some_iff.1 hj).1
    have hi : j / n < els.length := by rw [h.len]; exact Nat.div_lt_of_lt_mul (by rw [Nat.mul_comm]; exact hj')
    have hx := List.getElem?_eq_getElem hi
    have hjm : j / n * n + j % n = j := by rw [Nat.mul_comm]; exact Nat.div_add_mod j n
    have e := flat_at enc els (fun x _ => hE.len x) (j / n) _ hx (j % n) (Nat.mod_lt _ hpos)
    rw [hjm] at e
    rw [e] at hj
    have := hr (j / n) _ hx (j % n) u hj
    rw [Addr.add_mid]
    rwa [show off + j / n * n + j % n = off + j by omega] at this
variable {ops : Array Oper} {rest : List Oper} {o : Oper} {a : Act} {K : Act → World → Prop} {Q : Exit → Act → World → Prop}
/-- 'append(s, m...)'. -/
theorem wp_appRz (hE : Enc n enc) (hsl : SlT Tryd.prog t T z n bytes) (hby : bytes ≤ 100000) {s x : Operand} (ho : o.op = .call { callee := .builtin .append, args := #[s, x], argTypes := #[t, t] }) {v : Value} {els : List α} (hs : a.eval s = v) (hown : Own T n enc w v els)
    {ad : Option Addr} {k c : Nat} {new : List α} (hx : a.eval x = .slice ad k c) (hat : At n enc w ad k new) (hm : els.length + k ≤ 1000000)
    (h : ∀ v' w', Own T n enc w' v' (els ++ new) → Keep (fun k => v.ownBlock = some k) w w' → (v'.ownBlock = v.ownBlock ∨ v'.ownBlock = some w.heap.size) → K (a.put o.dst v') w') : o.wp Tryd.prog a w K Q := by
  have hbb : (els.length + k) * bytes ≤ 140737488355328 := Nat.le_trans (Nat.mul_le_mul hm hby) (by decide)
  refine wp_app_src hsl ho (xs := els.flatMap enc) (v := v) (n := els.length) hs hown.own hx (hat.srcz hE hsl c) (by unfold maxLen; omega) hbb ?_
  intro v' w' hA
  refine h v' w' ⟨?_, fun x _ => hE.len x⟩ hA.keep hA.at_
  have e := hA.own
  rw [← List.flatMap_append] at e
  rw [List.length_append, hat.len]
  exact e
/-- 'append(out, x)', x in a block of its own. -/
theorem wp_app1z (hE : Enc n enc) (hsl : SlT Tryd.prog t T z n bytes) (hby : bytes ≤ 100000) {s x : Operand} (ho : o.op = .call { callee := .builtin .append, args := #[s, x], argTypes := #[t, t] }) {v : Value} {els : List α} (hs : a.eval s = v) (hown : Own T n enc w v els)
    {g : Nat} (hx : a.eval x = .slice (some ⟨g, 0, none⟩) 1 1) (y : α) {cs : Array Value} (hcs : (enc y).toArray = cs) {fr : Nat × Nat} (hg : w.heap[g]? = some (.cells cs T fr)) (hm : els.length ≤ 1000000)
    (h : ∀ v' w', Own T n enc w' v' (els ++ [y]) → Keep (fun k => v.ownBlock = some k) w w' → (v'.ownBlock = v.ownBlock ∨ v'.ownBlock = some w.heap.size) → K (a.put o.dst v') w') : o.wp Tryd.prog a w K Q := by
  subst hcs
  have hbb : (els.length + 1) * bytes ≤ 140737488355328 := Nat.le_trans (Nat.mul_le_mul (show els.length + 1 ≤ 1000001 by omega) hby) (by decide)
  refine wp_app hsl ho (xs := els.flatMap enc) (v := v) (n := els.length) hs hown.own (enc y) hx (by simp [hE.len]) (World.news_of_block hg) (hE.one y) (by unfold maxLen; omega) hbb ?_
  intro v' w' hA
  refine h v' w' ⟨?_, fun x _ => hE.len x⟩ hA.keep hA.at_
  have e := hA.own
  simpa using e
theorem run_build0z (hsl : SlT Tryd.prog t T z n bytes) (w : World) : (Instr.buildSlice t 0 #[]).run Tryd.prog w = .ok (.slice (some ⟨w.heap.size, 0, none⟩) 0 0) (w.alloc (.cells #[] T)) := by
  obtain ⟨i, hi, hz, hs, _⟩ := hsl.info
  simp [Instr.buildSlice, run_underlying hsl.und, sizeOf, typeInfo, hi, Instr.fill, newRow]
  exact congrArg (fun z => w.alloc (Obj.cells z T)) (by simp)
theorem own0 (hE : Enc n enc) (w : World) : Own T n enc (w.alloc (.cells #[] T)) (.slice (some ⟨w.heap.size, 0, none⟩) 0 0) ([] : List α) :=
  Own.of (els := []) hE (heap_alloc_new w _) (Nat.le_refl _) (by unfold maxLen; omega) (by simp) (by simp)
/-- '[]T{}'. -/
theorem wp_build0z (hsl : SlT Tryd.prog t T z n bytes) (ho : o.op = .buildSlice t 0 #[]) (h : K (a.put o.dst (.slice (some ⟨w.heap.size, 0, none⟩) 0 0)) (w.alloc (.cells #[] T))) : o.wp Tryd.prog a w K Q := by
  unfold Oper.wp execOp
  simp only [ho, Sem.run_bind, List.map_toArray, List.map_nil, Array.map_empty, run_build0z hsl w, Result.andThen_ok]
  exact h
theorem wl_appRz (hE : Enc n enc) (hsl : SlT Tryd.prog t T z n bytes) (hby : bytes ≤ 100000) (hgd : o.guard = none) {s x : Operand} (ho : o.op = .call { callee := .builtin .append, args := #[s, x], argTypes := #[t, t] }) {v : Value} {els : List α} (hs : a.eval s = v) (hown : Own T n enc w v els)
    {ad : Option Addr} {k c : Nat} {new : List α} (hx : a.eval x = .slice ad k c) (hat : At n enc w ad k new) (hm : els.length + k ≤ 1000000)
    (h : ∀ v' w', Own T n enc w' v' (els ++ new) → Keep (fun k => v.ownBlock = some k) w w' → (v'.ownBlock = v.ownBlock ∨ v'.ownBlock = some w.heap.size) → wpList Tryd.prog ops Q rest (a.put o.dst v') w') : wpList Tryd.prog ops Q (o :: rest) a w :=
  wpList_plain hgd fun _ hK => wp_appRz hE hsl hby ho hs hown hx hat hm fun v' w' h1 h2 h3 => hK _ _ (h v' w' h1 h2 h3)
theorem wl_app1z (hE : Enc n enc) (hsl : SlT Tryd.prog t T z n bytes) (hby : bytes ≤ 100000) (hgd : o.guard = none) {s x : Operand} (ho : o.op = .call { callee := .builtin .append, args := #[s, x], argTypes := #[t, t] }) {v : Value} {els : List α} (hs : a.eval s = v) (hown : Own T n enc w v els)
    {g : Nat} (hx : a.eval x = .slice (some ⟨g, 0, none⟩) 1 1) (y : α) {cs : Array Value} (hcs : (enc y).toArray = cs) {fr : Nat × Nat} (hg : w.heap[g]? = some (.cells cs T fr)) (hm : els.length ≤ 1000000)
    (h : ∀ v' w', Own T n enc w' v' (els ++ [y]) → Keep (fun k => v.ownBlock = some k) w w' → (v'.ownBlock = v.ownBlock ∨ v'.ownBlock = some w.heap.size) → wpList Tryd.prog ops Q rest (a.put o.dst v') w') : wpList Tryd.prog ops Q (o :: rest) a w :=
  wpList_plain hgd fun _ hK => wp_app1z hE hsl hby ho hs hown hx y hcs hg hm fun v' w' h1 h2 h3 => hK _ _ (h v' w' h1 h2 h3)
theorem wl_build0z (hsl : SlT Tryd.prog t T z n bytes) (hgd : o.guard = none) (ho : o.op = .buildSlice t 0 #[]) {b : Nat} (hb : w.heap.size = b) (h : wpList Tryd.prog ops Q rest (a.put o.dst (.slice (some ⟨b, 0, none⟩) 0 0)) (w.alloc (.cells #[] T))) : wpList Tryd.prog ops Q (o :: rest) a w :=
  wpList_plain hgd fun _ hK => wp_build0z hsl ho (hK _ _ (by rw [hb]; exact h))
end
end St
end Go.Proofs.YthllhjdaknmlbaaDoor
