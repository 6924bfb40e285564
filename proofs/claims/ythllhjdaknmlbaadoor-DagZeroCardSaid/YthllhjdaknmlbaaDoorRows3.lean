/-
  Rows of structs: appended to rows, as a source; new rows.
-/
import Derived.Test.YthllhjdaknmlbaaDoorGMm
import Derived.Lib.SliceRun
import Derived.Lib.AppendZeros
set_option linter.unusedVariables false
set_option linter.unusedSimpArgs false
namespace Go.Proofs.YthllhjdaknmlbaaDoor
open Go.RowKit
namespace St
open Oct
/-- How the elements lie: each of as many cells, each cell one value. -/
structure Enc {α : Type} (n : Nat) (enc : α → List Value) : Prop where
  len : ∀ x, (enc x).length = n
  one : ∀ x, ∀ u ∈ enc x, u.oneCell' = true
section
variable {α : Type} {T t : TypeId} {n bytes : Nat} {enc : α → List Value} {w w' : World} {v : Value} {els : List α} {Z : Array Value}
theorem Enc.flat (hE : Enc n enc) : ∀ l : List α, (l.flatMap enc).length = l.length * n
  | [] => by simp
  | x :: l => by rw [List.flatMap_cons, List.length_append, hE.len, hE.flat l, List.length_cons, Nat.succ_mul, Nat.add_comm]
theorem Enc.all (hE : Enc n enc) (x : α) : (enc x).toArray.all (·.oneCell') = true := by
  rw [Array.all_eq_true_iff_forall_mem]
  intro u hu
  exact hE.one x u (by simpa using hu)
theorem Own.of (hE : Enc n enc) {b cap : Nat} {cur : Array Value} (hb : w.heap[b]? = some (.cells cur T (0, 0))) (hc : els.length ≤ cap) (hm : cap ≤ maxLen) (hz : cur.size = cap * n) (ht : cur.toList.take (els.length * n) = els.flatMap enc) : Own T n enc w (.slice (some ⟨b, 0, none⟩) els.length cap) els :=
  ⟨⟨hE.flat els, .inr ⟨b, cap, cur, rfl, Nat.zero_le _, hb, hc, hm, hz, ht⟩⟩, fun x _ => hE.len x⟩
theorem At.src (hE : Enc n enc) (hsl : SlT Tryd.prog t T (.agg Z) n bytes) {a : Option Addr} {k : Nat} (h : At n enc w a k els) (c : Nat) : Src Tryd.prog n t (.slice a k c) k (els.flatMap enc) w := by
  have hl : (els.flatMap enc).length = k * n := by rw [hE.flat, h.len]
  have h1 : ∀ u ∈ els.flatMap enc, u.oneCell' = true := by
    intro u hu
    obtain ⟨x, _, hx⟩ := List.mem_flatMap.1 hu
    exact hE.one x u hx
  rcases h.lay with hn | ⟨b, off, rfl, hb, hr⟩
  · subst hn
    have he : els = [] := List.eq_nil_of_length_eq_zero h.len
    subst he
    cases a with
    | none => exact Src.ofNil w hsl.und c
    | some ad => exact Src.ofSlice w hsl.und ad 0 c [] (by simp) (fun j u hj => by simp at hj) (by simp)
  · refine Src.ofSlice w hsl.und ⟨b, off, none⟩ k c _ hl (fun j u hj => ?_) h1
    have hpos := hsl.pos
    have hj' : j < k * n := by rw [← hl]; exact (List.getElem?_eq_some_iff.1 hj).1
    have hi : j / n < els.length := by rw [h.len]; exact Nat.div_lt_of_lt_mul (by rw [Nat.mul_comm]; exact hj')
    have hx := List.getElem?_eq_getElem hi
    have hjm : j / n * n + j % n = j := by rw [Nat.mul_comm]; exact Nat.div_add_mod j n
    have e := flat_at enc els (fun x _ => hE.len x) (j / n) _ hx (j % n) (Nat.mod_lt _ hpos)
    rw [hjm] at e
    rw [e] at hj
    have := hr (j / n) _ hx (j % n) u hj
    rw [Addr.add_mid]
    rwa [show off + j / n * n + j % n = off + j by omega] at this
variable {ops : Array Oper} {rest : List Oper} {o : Oper} {a : Act} {K : Act → World → Prop} {Q : Exit → Act → World → Prop}
/-- 'append(s, m...)'. -/
theorem wp_appR (hE : Enc n enc) (hsl : SlT Tryd.prog t T (.agg Z) n bytes) (hby : bytes ≤ 100000) {s x : Operand} (ho : o.op = .call { callee := .builtin .append, args := #[s, x], argTypes := #[t, t] }) {v : Value} {els : List α} (hs : a.eval s = v) (hown : Own T n enc w v els)
    {ad : Option Addr} {k c : Nat} {new : List α} (hx : a.eval x = .slice ad k c) (hat : At n enc w ad k new) (hm : els.length + k ≤ 1000000)
    (h : ∀ v' w', Own T n enc w' v' (els ++ new) → Keep (fun k => v.ownBlock = some k) w w' → (v'.ownBlock = v.ownBlock ∨ v'.ownBlock = some w.heap.size) → K (a.put o.dst v') w') : o.wp Tryd.prog a w K Q := by
  have hbb : (els.length + k) * bytes ≤ 140737488355328 := Nat.le_trans (Nat.mul_le_mul hm hby) (by decide)
  refine wp_app_src hsl ho (xs := els.flatMap enc) (v := v) (n := els.length) hs hown.own hx (hat.src hE hsl c) (by unfold maxLen; omega) hbb ?_
  intro v' w' hA
  refine h v' w' ⟨?_, fun x _ => hE.len x⟩ hA.keep hA.at_
  have e := hA.own
  rw [← List.flatMap_append] at e
  rw [List.length_append, hat.len]
  exact e
theorem wl_appR (hE : Enc n enc) (hsl : SlT Tryd.prog t T (.agg Z) n bytes) (hby : bytes ≤ 100000) (hgd : o.guard = none) {s x : Operand} (ho : o.op = .call { callee := .builtin .append, args := #[s, x], argTypes := #[t, t] }) {v : Value} {els : List α} (hs : a.eval s = v) (hown : Own T n enc w v els)
    {ad : Option Addr} {k c : Nat} {new : List α} (hx : a.eval x = .slice ad k c) (hat : At n enc w ad k new) (hm : els.length + k ≤ 1000000)
    (h : ∀ v' w', Own T n enc w' v' (els ++ new) → Keep (fun k => v.ownBlock = some k) w w' → (v'.ownBlock = v.ownBlock ∨ v'.ownBlock = some w.heap.size) → wpList Tryd.prog ops Q rest (a.put o.dst v') w') : wpList Tryd.prog ops Q (o :: rest) a w :=
  wpList_plain hgd fun _ hK => wp_appR hE hsl hby ho hs hown hx hat hm fun v' w' h1 h2 h3 => hK _ _ (h v' w' h1 h2 h3)
theorem run_build0 (hsl : SlT Tryd.prog t T (.agg Z) n bytes) (w : World) : (Instr.buildSlice t 0 #[]).run Tryd.prog w = .ok (.slice (some ⟨w.heap.size, 0, none⟩) 0 0) (w.alloc (.cells #[] T)) := by
  obtain ⟨i, hi, hz, hs, _⟩ := hsl.info
  simp [Instr.buildSlice, run_underlying hsl.und, sizeOf, typeInfo, hi, Instr.fill, newRow]
  exact congrArg (fun z => w.alloc (Obj.cells z T)) (by simp)
/-- '[]T{}'. -/
theorem wl_build0 (hE : Enc n enc) (hsl : SlT Tryd.prog t T (.agg Z) n bytes) (hgd : o.guard = none) (ho : o.op = .buildSlice t 0 #[]) (h : Own T n enc (w.alloc (.cells #[] T)) (.slice (some ⟨w.heap.size, 0, none⟩) 0 0) [] → wpList Tryd.prog ops Q rest (a.put o.dst (.slice (some ⟨w.heap.size, 0, none⟩) 0 0)) (w.alloc (.cells #[] T))) : wpList Tryd.prog ops Q (o :: rest) a w :=
  wpList_plain hgd fun K hK => by
    unfold Oper.wp execOp
    simp only [ho, Sem.run_bind, List.map_toArray, List.map_nil, Array.map_empty, run_build0 hsl w, Result.andThen_ok]
    exact hK _ _ (h (Own.of (els := []) hE (heap_alloc_new w _) (Nat.le_refl _) (by unfold maxLen; omega) (by simp) (by simp)))
/-- A row that is new: nobody's that was there. -/
def New (T : TypeId) (n : Nat) (enc : α → List Value) (w w' : World) (v : Value) (els : List α) : Prop := Own T n enc w' v els ∧ Keep (fun _ => False) w w' ∧ ∀ k, v.ownBlock = some k → w.heap.size ≤ k
theorem New.trans {w w1 w2 : World} {v v2 : Value} {els els2 : List α} (h : New T n enc w w1 v els) (k1 : Keep (fun k => v.ownBlock = some k) w1 w2) (h2 : Own T n enc w2 v2 els2) (e : v2.ownBlock = v.ownBlock ∨ v2.ownBlock = some w1.heap.size) : New T n enc w w2 v2 els2 := by
  obtain ⟨_, k, f⟩ := h
  have := k.size
  refine ⟨h2, k.trans' k1 (fun _ _ h => h) (fun x hx hs => by have := f x hs; omega), fun x hx => ?_⟩
  rcases e with e | e
  · exact f x (by rw [← e]; exact hx)
  · rw [e] at hx
    have := Option.some.inj hx
    omega
theorem New.from {w0 w w1 : World} {v : Value} {els : List α} (h : New T n enc w w1 v els) (k : Keep (fun _ => False) w0 w) : New T n enc w0 w1 v els :=
  ⟨h.1, k.trans h.2.1, fun x hx => Nat.le_trans k.size (h.2.2 x hx)⟩
theorem New.calm {w w1 w2 : World} {v : Value} {els : List α} (h : New T n enc w w1 v els) (k : Keep (fun _ => False) w1 w2) : New T n enc w w2 v els :=
  ⟨h.1.keep k (fun _ _ h => h), h.2.1.trans k, h.2.2⟩
theorem Own.any {w : World} {v : Value} {els : List α} (h : Own T n enc w v els) : ∃ a c, v = .slice a els.length c ∧ At n enc w a els.length els := by
  obtain ⟨a, c, e, h1, _⟩ := h.at
  exact ⟨a, c, e, h1⟩
theorem At.cut {a : Option Addr} {k : Nat} (h : At n enc w a k els) (j : Nat) (hj : j ≤ k) : At n enc w a j (els.take j) := by
  refine ⟨by rw [List.length_take, h.len]; omega, Nat.le_trans hj h.most, ?_⟩
  rcases h.lay with e | ⟨b, off, ha, hb, hr⟩
  · exact .inl (by omega)
  · refine .inr ⟨b, off, ha, hb, fun i x hi => hr i x ?_⟩
    have hlt := (List.getElem?_eq_some_iff.1 hi).1
    rw [List.length_take] at hlt
    rwa [List.getElem?_take_of_lt (by omega)] at hi
theorem At.tail {b off k : Nat} (h : At n enc w (some ⟨b, off, none⟩) k els) (j : Nat) (hj : j ≤ k) : At n enc w (some ⟨b, off + j * n, none⟩) (k - j) (els.drop j) := by
  refine ⟨by rw [List.length_drop, h.len], Nat.le_trans (Nat.sub_le _ _) h.most, ?_⟩
  rcases h.lay with e | ⟨b', off', ha, hb, hr⟩
  · exact .inl (by omega)
  · refine .inr ⟨b, off + j * n, rfl, ?_, fun i x hi => ?_⟩
    · cases ha; exact hb
    · cases ha
      rw [List.getElem?_drop] at hi
      have := hr (j + i) x hi
      rwa [show off + (j + i) * n = off + j * n + i * n by rw [Nat.add_mul]; omega] at this
theorem At.empty {a a' : Option Addr} {k : Nat} (h : At n enc w a k els) : At n enc w a' 0 [] := ⟨rfl, Nat.zero_le _, .inl rfl⟩
end
/-- The first that is so. -/
def idx {α : Type} (p : α → Bool) (l : List α) : Int := match l.findIdx? p with | some i => (i : Int) | none => -1
theorem idx_some {α : Type} {p : α → Bool} {l : List α} {k : Nat} {x : α} (hx : l[k]? = some x) (hp : p x = true) (hb : ∀ (j : Nat) (y : α), j < k → l[j]? = some y → p y = false) : idx p l = k := by
  have hk := (List.getElem?_eq_some_iff.1 hx).1
  have : l.findIdx? p = some k := by
    rw [List.findIdx?_eq_some_iff_getElem]
    refine ⟨hk, ?_, fun j hj => ?_⟩
    · rw [(List.getElem?_eq_some_iff.1 hx).2]; exact hp
    · have := hb j _ hj (List.getElem?_eq_getElem (by omega))
      rw [this]; decide
  unfold idx
  rw [this]
theorem idx_none {α : Type} {p : α → Bool} {l : List α} (hb : ∀ (j : Nat) (y : α), j < l.length → l[j]? = some y → p y = false) : idx p l = -1 := by
  have : l.findIdx? p = none := by
    rw [List.findIdx?_eq_none_iff]
    intro x hx
    obtain ⟨i, hi, rfl⟩ := List.getElem_of_mem hx
    exact hb i _ hi (List.getElem?_eq_getElem hi)
  unfold idx
  rw [this]
theorem idx_any {α : Type} (p : α → Bool) (l : List α) : decide (0 ≤ idx p l) = l.any p := by
  unfold idx
  cases h : l.findIdx? p with
  | none =>
    have : l.any p = false := by
      rw [List.any_eq_false]
      intro x hx
      rw [List.findIdx?_eq_none_iff] at h
      simp [h x hx]
    rw [this]; rfl
  | some i =>
    have : l.any p = true := by
      rw [List.findIdx?_eq_some_iff_getElem] at h
      obtain ⟨hi, hp, _⟩ := h
      exact List.any_eq_true.2 ⟨_, List.getElem_mem hi, hp⟩
    rw [this]
    simp
end St
end Go.Proofs.YthllhjdaknmlbaaDoor
