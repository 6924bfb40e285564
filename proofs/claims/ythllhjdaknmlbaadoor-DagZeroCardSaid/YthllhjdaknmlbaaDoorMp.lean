/-
  Maps: what they hold, as a list of keys with their elements; look-up, store, length, emptying; ranging over one.
-/
import Derived.Test.YthllhjdaknmlbaaDoorBase
import Derived.Maps.OwnSet
import Derived.Maps.RangeWalk
set_option linter.unusedVariables false
set_option linter.unusedSimpArgs false
namespace Go.Proofs.YthllhjdaknmlbaaDoor
open Go.RowKit
namespace Mp
open Go.ChangeMaps (setBlock)

set_option linter.unusedSectionVars false
variable {P : Program} {α : Type} [DecidableEq α]
/-- A key's type: each key can be one, two are told apart, one stays as it is. -/
structure Key (P : Program) (K : TypeId) (ok : α → Prop) (enc : α → Value) : Prop where
  chk : ∀ k, ok k → ∀ (b : Bool) (w : World), (Instr.checkKey b 10000 K (enc k)).run P w = .ok () w
  eq : ∃ d, P.underlying K = some d ∧ ((∀ x y, ok x → ok y → Instr.sameNow d (enc x) (enc y) = some (decide (x = y))) ∨
    ((∀ x y, Instr.sameNow d (enc x) (enc y) = none) ∧ ∀ x y, ok x → ok y → ∀ w, (Op.equal K (enc x) (enc y)).run P w = .ok (decide (x = y)) w))
  bits : ∀ k, ok k → Instr.sameBits 10000 (enc k) (enc k) = true

/-- The place and the element of a key. -/
def fnd (k : α) : List (α × Value) → Nat → Option (Nat × Value)
  | [], _ => none
  | p :: r, i => if k = p.1 then some (i, p.2) else fnd k r (i + 1)
def get (D : List (α × Value)) (k : α) : Option Value := (fnd k D 0).map (·.2)
/-- The map behind a store. -/
def put (D : List (α × Value)) (k : α) (v : Value) : List (α × Value) := match fnd k D 0 with | some (i, _) => D.set i (k, v) | none => D ++ [(k, v)]

theorem fnd_some {k : α} {i : Nat} {v : Value} : ∀ {D : List (α × Value)} {j : Nat}, fnd k D j = some (i, v) → j ≤ i ∧ D[i - j]? = some (k, v)
  | [], _, h => by cases h
  | p :: r, j, h => by
    unfold fnd at h
    split at h
    · rename_i e
      cases h
      subst e
      exact ⟨Nat.le_refl _, by simp⟩
    · obtain ⟨h1, h2⟩ := fnd_some h
      refine ⟨by omega, ?_⟩
      rw [show i - j = (i - (j + 1)) + 1 by omega, List.getElem?_cons_succ]
      exact h2
theorem fnd_none {k : α} : ∀ {D : List (α × Value)} {j : Nat}, fnd k D j = none ↔ k ∉ D.map (·.1)
  | [], _ => by simp [fnd]
  | p :: r, j => by
    unfold fnd
    by_cases e : k = p.1
    · simp [e]
    · rw [if_neg e, fnd_none, List.map_cons, List.mem_cons, not_or]
      exact ⟨fun h => ⟨e, h⟩, fun h => h.2⟩
theorem get_none {D : List (α × Value)} {k : α} : get D k = none ↔ k ∉ D.map (·.1) := by
  unfold get
  rw [Option.map_eq_none_iff]
  exact fnd_none
theorem get_mem {D : List (α × Value)} {k : α} {v : Value} (h : get D k = some v) : (k, v) ∈ D := by
  unfold get at h
  rw [Option.map_eq_some_iff] at h
  obtain ⟨⟨i, v'⟩, h1, rfl⟩ := h
  exact List.mem_of_getElem? (fnd_some h1).2
theorem get_of_mem {D : List (α × Value)} {k : α} {v : Value} (hn : (D.map (·.1)).Nodup) (h : (k, v) ∈ D) : get D k = some v := by
  cases hg : get D k with
  | none => exact absurd (List.mem_map_of_mem (f := (·.1)) h) (get_none.1 hg)
  | some u =>
    have h2 := get_mem hg
    obtain ⟨i, hi, e1⟩ := List.getElem_of_mem h
    obtain ⟨j, hj, e2⟩ := List.getElem_of_mem h2
    have : i = j := (List.getElem_inj (h₀ := by simpa using hi) (h₁ := by simpa using hj) hn).1 (by simp [e1, e2])
    subst this
    rw [e1] at e2
    exact congrArg some (Prod.mk.inj e2).2.symm
theorem get_put (D : List (α × Value)) (hn : (D.map (·.1)).Nodup) (k : α) (v : Value) (x : α) : get (put D k v) x = if x = k then some v else get D x := by
  have hput : put D k v = match fnd k D 0 with | some (i, _) => D.set i (k, v) | none => D ++ [(k, v)] := rfl
  have hnd : ((put D k v).map (·.1)).Nodup ∧ ∀ y u, (y, u) ∈ put D k v ↔ (y = k ∧ u = v) ∨ (y ≠ k ∧ (y, u) ∈ D) := by
    rw [hput]
    cases hf : fnd k D 0 with
    | none =>
      have hk := fnd_none.1 hf
      simp only
      refine ⟨by rw [List.map_append, List.nodup_append]; exact ⟨hn, by simp, fun a ha b hb e => hk (by simp at hb; rw [← hb, ← e]; exact ha)⟩, fun y u => ?_⟩
      rw [List.mem_append, List.mem_singleton, Prod.mk.injEq]
      constructor
      · rintro (h | h)
        · exact .inr ⟨fun e => hk (by subst e; exact List.mem_map_of_mem (f := (·.1)) h), h⟩
        · exact .inl h
      · rintro (h | ⟨_, h⟩)
        · exact .inr h
        · exact .inl h
    | some q =>
      obtain ⟨i, u0⟩ := q
      obtain ⟨_, hi⟩ := fnd_some hf
      rw [Nat.sub_zero] at hi
      have hlt := (List.getElem?_eq_some_iff.1 hi).1
      have hmap : (D.set i (k, v)).map (·.1) = D.map (·.1) := by
        apply List.ext_getElem?
        intro j
        rw [List.getElem?_map, List.getElem?_map]
        by_cases e : j = i
        · subst e
          rw [List.getElem?_set_self hlt, hi]
          rfl
        · rw [List.getElem?_set_ne (Ne.symm e)]
      simp only
      refine ⟨by rw [hmap]; exact hn, fun y u => ?_⟩
      have uniq : ∀ j x', D[j]? = some (k, x') → j = i := fun j x' hj => by
        have hjl := (List.getElem?_eq_some_iff.1 hj).1
        refine (List.getElem_inj (h₀ := by simpa using hjl) (h₁ := by simpa using hlt) hn).1 ?_
        rw [List.getElem_map, List.getElem_map, (List.getElem?_eq_some_iff.1 hj).2, (List.getElem?_eq_some_iff.1 hi).2]
      constructor
      · intro h
        obtain ⟨j, hj⟩ := List.getElem?_of_mem h
        by_cases e : j = i
        · subst e
          rw [List.getElem?_set_self hlt] at hj
          have := Option.some.inj hj
          cases this
          exact .inl ⟨rfl, rfl⟩
        · rw [List.getElem?_set_ne (Ne.symm e)] at hj
          exact .inr ⟨fun e2 => e (uniq j u (e2 ▸ hj)), List.mem_of_getElem? hj⟩
      · rintro (⟨rfl, rfl⟩ | ⟨hy, h⟩)
        · exact List.mem_of_getElem? (List.getElem?_set_self hlt)
        · obtain ⟨j, hj⟩ := List.getElem?_of_mem h
          refine List.mem_of_getElem? (i := j) ?_
          rw [List.getElem?_set_ne (fun e => ?_)]
          · exact hj
          · subst e
            rw [hi] at hj
            exact hy (Prod.mk.inj (Option.some.inj hj)).1.symm
  by_cases e : x = k
  · subst e
    rw [if_pos rfl]
    exact get_of_mem hnd.1 ((hnd.2 x v).2 (.inl ⟨rfl, rfl⟩))
  · rw [if_neg e]
    cases hg : get D x with
    | some u => exact get_of_mem hnd.1 ((hnd.2 x u).2 (.inr ⟨e, get_mem hg⟩))
    | none =>
      rw [get_none] at hg ⊢
      intro h
      obtain ⟨⟨y, u⟩, hm, rfl⟩ := List.mem_map.1 h
      rcases (hnd.2 y u).1 hm with ⟨h1, _⟩ | ⟨_, h1⟩
      · exact e h1
      · exact hg (List.mem_map_of_mem (f := (·.1)) h1)
theorem keys_put (D : List (α × Value)) (k : α) (v : Value) : (put D k v).map (·.1) = if k ∈ D.map (·.1) then D.map (·.1) else D.map (·.1) ++ [k] := by
  unfold put
  cases hf : fnd k D 0 with
  | none => rw [if_neg (fnd_none.1 hf)]; simp
  | some q =>
    obtain ⟨i, u0⟩ := q
    obtain ⟨_, hi⟩ := fnd_some hf
    rw [Nat.sub_zero] at hi
    have hlt := (List.getElem?_eq_some_iff.1 hi).1
    have hk : k ∈ D.map (·.1) := List.mem_map_of_mem (f := (·.1)) (List.mem_of_getElem? hi)
    rw [if_pos hk]
    apply List.ext_getElem?
    intro j
    rw [List.getElem?_map, List.getElem?_map]
    by_cases e : j = i
    · subst e
      simp only
      rw [List.getElem?_set_self hlt, hi]
      rfl
    · simp only
      rw [List.getElem?_set_ne (Ne.symm e)]
theorem nodup_put {D : List (α × Value)} (h : (D.map (·.1)).Nodup) (k : α) (v : Value) : ((put D k v).map (·.1)).Nodup := by
  rw [keys_put]
  split
  · exact h
  · rename_i hk
    rw [List.nodup_append]
    exact ⟨h, by simp, fun a ha b hb e => hk (by simp at hb; rw [← hb, ← e]; exact ha)⟩

/-- What a map in block b holds. -/
structure Is (ok : α → Prop) (enc : α → Value) (w : World) (b : Nat) (D : List (α × Value)) : Prop where
  lay : ∃ es clock, w.heap[b]? = some (.map es clock) ∧ es.toList.map (fun e => (e.key, e.val)) = D.map (fun p => (enc p.1, p.2)) ∧ (∀ x ∈ es.toList, x.born < clock) ∧ (es.toList.map (·.born)).Nodup
  nd : (D.map (·.1)).Nodup
  ok : ∀ x ∈ D.map (·.1), ok x

section
variable {K : TypeId} {ok : α → Prop} {enc : α → Value} (hK : Key P K ok enc)
include hK
theorem find_now {d : TypeDesc} (hd : ∀ x y, ok x → ok y → Instr.sameNow d (enc x) (enc y) = some (decide (x = y))) {k : α} (hk : ok k) : ∀ (D : List (α × Value)) (es : List MapEntry) (i : Nat), es.map (fun e => (e.key, e.val)) = D.map (fun p => (enc p.1, p.2)) → (∀ x ∈ D.map (·.1), ok x) → Instr.findNow d (enc k) es i = some (fnd k D i)
  | [], [], i, _, _ => rfl
  | [], e :: es, i, h, _ => by cases h
  | p :: D, [], i, h, _ => by cases h
  | p :: D, e :: es, i, h, ho => by
    rw [List.map_cons, List.map_cons] at h
    obtain ⟨h1, h2⟩ := List.cons.inj h
    obtain ⟨h3, h4⟩ := Prod.mk.inj h1
    unfold Instr.findNow fnd
    rw [h3, h4, hd k p.1 hk (ho _ (by simp))]
    by_cases e' : k = p.1
    · simp [e']
    · rw [decide_eq_false e', if_neg e']
      exact find_now hd hk D es (i + 1) h2 (fun x hx => ho x (by simp [hx]))
theorem find_asking (hd : ∀ x y, ok x → ok y → ∀ w, (Op.equal K (enc x) (enc y)).run P w = .ok (decide (x = y)) w) {k : α} (hk : ok k) (w : World) : ∀ (D : List (α × Value)) (es : List MapEntry) (i : Nat), es.map (fun e => (e.key, e.val)) = D.map (fun p => (enc p.1, p.2)) → (∀ x ∈ D.map (·.1), ok x) → (Instr.findAsking K (enc k) es i).run P w = .ok (fnd k D i) w
  | [], [], i, _, _ => rfl
  | [], e :: es, i, h, _ => by cases h
  | p :: D, [], i, h, _ => by cases h
  | p :: D, e :: es, i, h, ho => by
    rw [List.map_cons, List.map_cons] at h
    obtain ⟨h1, h2⟩ := List.cons.inj h
    obtain ⟨h3, h4⟩ := Prod.mk.inj h1
    unfold Instr.findAsking fnd
    have h3 : e.key = enc p.1 := h3
    have h4 : e.val = p.2 := h4
    rw [Sem.run_bind, h3, h4, hd k p.1 hk (ho _ (by simp)), Result.andThen_ok]
    by_cases e' : k = p.1
    · rw [decide_eq_true e', if_pos e', if_pos rfl]
      rfl
    · rw [decide_eq_false e', if_neg e', if_neg (by decide)]
      exact find_asking hd hk w D es (i + 1) h2 (fun x hx => ho x (by simp [hx]))
theorem now_none {d : TypeDesc} (hd : ∀ x y, Instr.sameNow d (enc x) (enc y) = none) (k : α) : ∀ (D : List (α × Value)) (es : List MapEntry) (i : Nat), es.map (fun e => (e.key, e.val)) = D.map (fun p => (enc p.1, p.2)) → (Instr.findNow d (enc k) es i = none ∨ (D = [] ∧ Instr.findNow d (enc k) es i = some none))
  | [], [], i, _ => .inr ⟨rfl, rfl⟩
  | [], e :: es, i, h => by cases h
  | p :: D, [], i, h => by cases h
  | p :: D, e :: es, i, h => by
    rw [List.map_cons, List.map_cons] at h
    obtain ⟨h1, h2⟩ := List.cons.inj h
    obtain ⟨h3, h4⟩ := Prod.mk.inj h1
    left
    unfold Instr.findNow
    rw [h3, hd]
theorem find {k : α} (hk : ok k) (D : List (α × Value)) (es : List MapEntry) (h : es.map (fun e => (e.key, e.val)) = D.map (fun p => (enc p.1, p.2))) (ho : ∀ x ∈ D.map (·.1), ok x) (w : World) : (Instr.findKey K (enc k) es).run P w = .ok (fnd k D 0) w := by
  obtain ⟨d, hu, hd⟩ := hK.eq
  unfold Instr.findKey
  rw [Sem.run_bind, run_underlying hu]
  simp only [Result.andThen]
  rcases hd with hd | ⟨hd1, hd2⟩
  · rw [find_now hK hd hk D es 0 h ho]
    rfl
  · rcases now_none hK hd1 k D es 0 h with e | ⟨rfl, e⟩
    · rw [e]
      exact find_asking hK hd2 hk w D es 0 h ho
    · rw [e]
      rfl
variable {T E : TypeId} (hT : P.underlying T = some (.map K E)) {w : World} {b : Nat} {D : List (α × Value)} (h : Is ok enc w b D)
include hT h
theorem run_look {z : Value} (hz : (zeroValue E).run P w = .ok z w) {k : α} (hk : ok k) : (Instr.lookup T (.map (some b)) (enc k) false).run P w = .ok ((get D k).getD z) w := by
  obtain ⟨es, clock, hb, he, _, _⟩ := h.lay
  have hg : (getObj b).run P w = .ok (.map es clock) w := by simp [getObj, Sem.run, hb]
  simp only [Instr.lookup, Sem.run_bind, run_underlying hT, Result.andThen_ok, hg, Sem.run_pure, hK.chk k hk, find hK hk D _ he h.ok]
  unfold get
  cases hf : fnd k D 0 with
  | none => simp [hz]
  | some q => simp
theorem run_look_ok {z : Value} (hz : (zeroValue E).run P w = .ok z w) {k : α} (hk : ok k) : (Instr.lookup T (.map (some b)) (enc k) true).run P w = .ok (.tuple #[(get D k).getD z, .bool (get D k).isSome]) w := by
  obtain ⟨es, clock, hb, he, _, _⟩ := h.lay
  have hg : (getObj b).run P w = .ok (.map es clock) w := by simp [getObj, Sem.run, hb]
  simp only [Instr.lookup, Sem.run_bind, run_underlying hT, Result.andThen_ok, hg, Sem.run_pure, hK.chk k hk, find hK hk D _ he h.ok]
  unfold get
  cases hf : fnd k D 0 with
  | none => simp [hz]
  | some q => simp
omit hK hT h in
theorem setBlock_keep (w : World) (b : Nat) (o : Obj) : Keep (fun k => k = b) w (setBlock w b o) := by
  refine ⟨rfl, rfl, rfl, by simp [setBlock], fun k hk hn => ?_⟩
  show (w.heap.setIfInBounds b o)[k]? = _
  rw [Array.getElem?_setIfInBounds_ne (Ne.symm hn)]
omit hK hT h in
theorem setBlock_get {w : World} {b : Nat} {o1 : Obj} (h : w.heap[b]? = some o1) (o : Obj) : (setBlock w b o).heap[b]? = some o := by
  have := lt_of_block h
  show (w.heap.setIfInBounds b o)[b]? = _
  rw [Array.getElem?_setIfInBounds_self_of_lt this]
theorem run_put {k : α} (hk : ok k) (v : Value) : ∃ w', (Instr.mapUpdate T (.map (some b)) (enc k) v).run P w = .ok () w' ∧ Is ok enc w' b (put D k v) ∧ Keep (fun k => k = b) w w' := by
  obtain ⟨es, clock, hb, he, hborn, hnd⟩ := h.lay
  have hg : (getObj b).run P w = .ok (.map es clock) w := by simp [getObj, Sem.run, hb]
  have hlen : es.toList.length = D.length := by have := congrArg List.length he; simpa using this
  have hset : ∀ o, (setObj b o).run P w = .ok () (setBlock w b o) := fun o => by simp [setObj, Sem.run, hb, setBlock]
  simp only [Instr.mapUpdate, Sem.run_bind, run_underlying hT, Result.andThen_ok, hg, hK.chk k hk, find hK hk D _ he h.ok]
  have hnd' := nodup_put h.nd k v
  have hok' : ∀ x ∈ (put D k v).map (·.1), ok x := fun x hx => by
    rw [keys_put] at hx
    split at hx
    · exact h.ok x hx
    · rcases List.mem_append.1 hx with hx | hx
      · exact h.ok x hx
      · rw [List.mem_singleton] at hx; subst hx; exact hk
  cases hf : fnd k D 0 with
  | none =>
    have hput : put D k v = D ++ [(k, v)] := by unfold put; rw [hf]
    simp only [hset]
    refine ⟨_, rfl, ⟨⟨_, _, setBlock_get hb _, ?_, ?_, ?_⟩, hnd', hok'⟩, setBlock_keep w b _⟩
    · rw [hput]; simp [he]
    · intro x hx
      simp only [Array.toList_push, List.mem_append, List.mem_singleton] at hx
      rcases hx with hx | rfl
      · exact Nat.lt_succ_of_lt (hborn x hx)
      · exact Nat.lt_succ_self _
    · simp only [Array.toList_push, List.map_append, List.map_cons, List.map_nil]
      rw [List.nodup_append]
      refine ⟨hnd, by simp, fun a ha c hc e => ?_⟩
      obtain ⟨x, hx, rfl⟩ := List.mem_map.1 ha
      have := hborn x hx
      simp at hc
      omega
  | some q =>
    obtain ⟨i, u0⟩ := q
    obtain ⟨_, hi⟩ := fnd_some hf
    rw [Nat.sub_zero] at hi
    have hlt := (List.getElem?_eq_some_iff.1 hi).1
    have hput : put D k v = D.set i (k, v) := by unfold put; rw [hf]
    have hes : i < es.size := by have : es.toList.length = es.size := Array.length_toList; omega
    have hkey : ((es[i]?).map (·.key)).getD (enc k) = enc k := by
      have h1 : (es.toList.map (fun e => (e.key, e.val)))[i]? = some (enc k, u0) := by rw [he, List.getElem?_map, hi]; rfl
      rw [List.getElem?_map, Array.getElem?_toList] at h1
      rw [Array.getElem?_eq_getElem hes] at h1 ⊢
      simp only [Option.map_some, Option.some.injEq, Prod.mk.injEq] at h1
      simp [h1.1]
    simp only [Sem.run_bind, hkey, Instr.keyThatStays, hK.bits k hk, if_true, Sem.run_pure, Result.andThen_ok, hset]
    refine ⟨_, rfl, ⟨⟨_, _, setBlock_get hb _, ?_, ?_, ?_⟩, hnd', hok'⟩, setBlock_keep w b _⟩
    · rw [hput, List.map_set, ← he]
      apply List.ext_getElem?
      intro j
      rw [Array.toList_modify, List.getElem?_map, List.getElem?_modify]
      by_cases e : i = j
      · subst e
        rw [List.getElem?_set_self (by simpa using hes)]
        simp [Array.getElem?_toList, Array.getElem?_eq_getElem hes]
      · rw [List.getElem?_set_ne e, List.getElem?_map]
        simp [e]
    · intro x hx
      rw [Array.toList_modify] at hx
      obtain ⟨j, hj⟩ := List.getElem?_of_mem hx
      rw [List.getElem?_modify] at hj
      obtain ⟨y, hy, rfl⟩ := Option.map_eq_some_iff.1 hj
      have := hborn y (List.mem_of_getElem? hy)
      by_cases e : i = j <;> simp [e, this]
    · have : (es.modify i fun e => { e with key := enc k, val := v }).toList.map (·.born) = es.toList.map (·.born) := by
        apply List.ext_getElem?
        intro j
        rw [Array.toList_modify, List.getElem?_map, List.getElem?_modify, List.getElem?_map]
        by_cases e : i = j <;> simp [e, Function.comp_def]
      rw [this]
      exact hnd
omit hK in
theorem run_len (ty : TypeId) : (Builtin.len_ #[T] ty #[.map (some b)]).run P w = .ok (.int .i64 D.length) w := by
  obtain ⟨es, clock, hb, he, _, _⟩ := h.lay
  have hg : (getObj b).run P w = .ok (.map es clock) w := by simp [getObj, Sem.run, hb]
  have hlen : es.size = D.length := by have := congrArg List.length he; simpa using this
  simp [Builtin.len_, run_underlying hT, hg, hlen, goInt]
omit hK in
theorem run_clr (ty : TypeId) : (Builtin.clear_ #[T] ty #[.map (some b)]).run P w = .ok (.tuple #[]) (setBlock w b (.map #[] ((match w.heap[b]? with | some (.map _ c) => c | _ => 0)))) := by
  obtain ⟨es, clock, hb, he, _, _⟩ := h.lay
  have hg : (getObj b).run P w = .ok (.map es clock) w := by simp [getObj, Sem.run, hb]
  simp [Builtin.clear_, run_underlying hT, hg, setObj, Sem.run, hb, setBlock]
end
end Mp
end Go.Proofs.YthllhjdaknmlbaaDoor
