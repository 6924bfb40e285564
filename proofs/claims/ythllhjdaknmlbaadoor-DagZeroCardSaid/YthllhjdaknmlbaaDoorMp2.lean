/-
  Maps: ranging over one; the laws at the operations; maps among what is held.
-/
import Derived.Test.YthllhjdaknmlbaaDoorMp
import Derived.Test.YthllhjdaknmlbaaDoorGMm
set_option linter.unusedVariables false
set_option linter.unusedSimpArgs false
namespace Go.Proofs.YthllhjdaknmlbaaDoor
open Go.RowKit
namespace Mp
open Go.ChangeMaps (setBlock)
open Mem (M It blk)
set_option linter.unusedSectionVars false
variable {P : Program} {α : Type} [DecidableEq α]

/-- An iterator in block r over the map in block b, which holds D: what is left of it, what came last. -/
structure Iter (ok : α → Prop) (enc : α → Value) (w : World) (r b : Nat) (D todo : List (α × Value)) (cur : Option (α × Value)) : Prop where
  is : Is ok enc w b D
  lay : ∃ es clock seen, w.heap[b]? = some (.map es clock) ∧ w.heap[r]? = some (.mapIter (some b) clock seen clock) ∧ es.toList.map (fun e => (e.key, e.val)) = D.map (fun p => (enc p.1, p.2)) ∧ (∀ x ∈ es.toList, x.born < clock) ∧ (es.toList.map (·.born)).Nodup ∧
    (leftOf es seen).toList.map (fun e => (e.key, e.val)) = todo.map (fun p => (enc p.1, p.2)) ∧ (∀ p, cur = some p → ∃ e s, e ∈ es.toList ∧ seen = Array.push s e.born ∧ e.key = enc p.1 ∧ e.val = p.2)

theorem map_mid {β γ δ : Type} {f : β → δ} {g : γ → δ} : ∀ {L : List β} {T : List γ} {L1 L2 : List β} {e : β}, L.map f = T.map g → L = L1 ++ e :: L2 → ∃ t1 p t2, T = t1 ++ p :: t2 ∧ L1.map f = t1.map g ∧ f e = g p ∧ L2.map f = t2.map g := by
  intro L T L1 L2 e h hL
  subst hL
  rw [List.map_append, List.map_cons] at h
  obtain ⟨t1, t', rfl, h1, h2⟩ := List.map_eq_append_iff.1 h.symm
  obtain ⟨p, t2, rfl, h3, h4⟩ := List.map_eq_cons_iff.1 h2
  exact ⟨t1, p, t2, rfl, h1.symm, h3.symm, h4.symm⟩
section
variable {ok : α → Prop} {enc : α → Value} {w : World} {r b : Nat} {D todo : List (α × Value)} {cur : Option (α × Value)}
theorem run_range {T K E : TypeId} (hT : P.underlying T = some (.map K E)) (h : Is ok enc w b D) : ∃ w', (Instr.range T (.map (some b))).run P w = .ok (.pointer (some ⟨w.heap.size, 0, none⟩)) w' ∧ Iter ok enc w' w.heap.size b D D none ∧ Keep (fun _ => False) w w' ∧ w'.heap.size = w.heap.size + 1 := by
  obtain ⟨es, clock, hb, he, hborn, hnd⟩ := h.lay
  have hg : (getObj b).run P w = .ok (.map es clock) w := by simp [getObj, Sem.run, hb]
  have hn : ∀ o, (newObj o).run P w = .ok w.heap.size (w.alloc o) := fun o => rfl
  have hbk := (heap_a hb : (w.alloc (.mapIter (some b) clock #[] clock)).heap[b]? = _)
  refine ⟨w.alloc (.mapIter (some b) clock #[] clock), ?_, ⟨⟨⟨es, clock, hbk, he, hborn, hnd⟩, h.nd, h.ok⟩, es, clock, #[], hbk, heap_alloc_new w _, he, hborn, hnd, ?_, fun p hp => by cases hp⟩, (Keep.refl _ _).alloc _, by simp⟩
  · simp only [Instr.range, Sem.run_bind, run_underlying hT, Result.andThen_ok, hg, Sem.run_pure, hn]
  · have : leftOf es #[] = es := by unfold leftOf; rw [Array.filter_eq_self]; intro x _; simp
    rw [this]
    exact he
theorem run_next (h : Iter ok enc w r b D todo cur) (ty : TypeId) : (todo = [] ∧ (Instr.next (.pointer (some ⟨r, 0, none⟩)) false ty).run P w = .ok (.tuple #[.bool false]) w) ∨
    ∃ l1 p l2 w', todo = l1 ++ p :: l2 ∧ (Instr.next (.pointer (some ⟨r, 0, none⟩)) false ty).run P w = .ok (.tuple #[.bool true, enc p.1, p.2]) w' ∧ Iter ok enc w' r b D (l1 ++ l2) (some p) ∧ Keep (fun k => k = r) w w' ∧ w'.heap.size = w.heap.size := by
  obtain ⟨es, clock, seen, hb, hr, he, hborn, hnd, hleft, _⟩ := h.lay
  have hrb : b ≠ r := fun e => by subst e; rw [hb] at hr; cases hr
  rcases run_next_at (P := P) w ty r b clock clock seen es clock hr hb hborn (Nat.le_refl _) with ⟨h0, hrun⟩ | ⟨e, hem, w1, hw1, hrun⟩
  · left
    have h1 : (leftOf es seen).toList = [] := by
      apply List.eq_nil_of_length_eq_zero
      rw [Array.length_toList]; exact h0
    rw [h1] at hleft
    exact ⟨by simpa using hleft.symm, hrun⟩
  · right
    obtain ⟨L1, L2, hL⟩ := List.append_of_mem hem
    obtain ⟨t1, p, t2, rfl, e1, e2, e3⟩ := map_mid hleft hL
    obtain ⟨e4, e5⟩ := Prod.mk.inj e2
    have e4 : e.key = enc p.1 := e4
    have e5 : e.val = p.2 := e5
    have hes : e ∈ es.toList := by
      unfold leftOf at hem
      simp at hem ⊢
      exact hem.1
    have k1 : Keep (fun k => k = r) w w1 := by rcases hw1 with rfl | rfl; exact Keep.refl _ _; exact (Keep.refl _ _).drew
    have k2 := k1.trans (setBlock_keep w1 r (.mapIter (some b) clock (seen.push e.born) clock))
    have hr1 : w1.heap[r]? = some (.mapIter (some b) clock seen clock) := by rcases hw1 with rfl | rfl <;> exact hr
    have hb2 := k2.get hb hrb
    refine ⟨t1, p, t2, _, rfl, by rw [hrun, e4, e5], ⟨⟨⟨es, clock, hb2, he, hborn, hnd⟩, h.is.nd, h.is.ok⟩, es, clock, seen.push e.born, hb2, setBlock_get hr1 _, he, hborn, hnd, ?_, ?_⟩, k2, ?_⟩
    · have hl : (leftOf es (seen.push e.born)).toList = L1 ++ L2 := by
        have hf : (leftOf es (seen.push e.born)).toList = (leftOf es seen).toList.filter (fun x => !(x.born == e.born)) := by
          unfold leftOf
          simp only [Array.toList_filter, List.filter_filter]
          refine List.filter_congr fun x _ => ?_
          rw [Bool.eq_iff_iff]
          simp [Array.mem_push, not_or, and_comm]
        have hsub : (leftOf es seen).toList.Sublist es.toList := by
          unfold leftOf
          rw [Array.toList_filter]
          exact List.filter_sublist
        have hn2 := (hsub.map (·.born)).nodup hnd
        rw [hf, hL]
        rw [hL, List.map_append, List.map_cons, List.nodup_append] at hn2
        obtain ⟨n1, n2, n3⟩ := hn2
        rw [List.filter_append, List.filter_cons_of_neg (by simp)]
        rw [List.filter_eq_self.2, List.filter_eq_self.2]
        · intro x hx
          have := (List.nodup_cons.1 n2).1
          have h2 : x.born ≠ e.born := fun hh => this (hh ▸ List.mem_map_of_mem (f := (·.born)) hx)
          simpa using h2
        · intro x hx
          have h2 : x.born ≠ e.born := n3 _ (List.mem_map_of_mem (f := (·.born)) hx) _ List.mem_cons_self
          simpa using h2
      rw [hl, List.map_append, List.map_append, e1, e3]
    · intro q hq
      cases hq
      exact ⟨e, seen, hes, rfl, e4, e5⟩
    · show (w1.heap.setIfInBounds _ _).size = _
      rw [Array.size_setIfInBounds]
      rcases hw1 with rfl | rfl <;> rfl
theorem run_entry {p : α × Value} (h : Iter ok enc w r b D todo (some p)) : (Instr.entry (.pointer (some ⟨r, 0, none⟩))).run P w = .ok (.tuple #[enc p.1, p.2]) w := by
  obtain ⟨es, clock, seen, hb, hr, he, hborn, hnd, hleft, hc⟩ := h.lay
  obtain ⟨e, s, h1, rfl, h3, h4⟩ := hc p rfl
  have := run_entry_at (P := P) w r b clock s es clock e hr hb h1 hnd
  rw [this, h3, h4]
end
/-- Nothing yet. -/
theorem is_new {ok : α → Prop} {enc : α → Value} (w : World) : Is ok enc (w.alloc (.map #[] 0)) w.heap.size ([] : List (α × Value)) :=
  ⟨⟨#[], 0, heap_alloc_new w _, rfl, fun x hx => by simp at hx, by simp⟩, by simp, fun x hx => by simp at hx⟩
theorem is_clr {ok : α → Prop} {enc : α → Value} {w : World} {b : Nat} {D : List (α × Value)} (h : Is ok enc w b D) (c : Nat) : Is ok enc (setBlock w b (.map #[] c)) b ([] : List (α × Value)) := by
  obtain ⟨es, clock, hb, _⟩ := h.lay
  exact ⟨⟨#[], c, setBlock_get hb _, rfl, fun x hx => by simp at hx, by simp⟩, by simp, fun x hx => by simp at hx⟩
/-- A map as one thing among others. -/
def mp (ok : α → Prop) (enc : α → Value) (b : Nat) (D : List (α × Value)) : It := ⟨fun k => k = b, fun w => Is ok enc w b D, fun w w' S h k n => by
  obtain ⟨es, clock, hb, h1⟩ := h.lay
  exact ⟨⟨es, clock, k.get hb (n b rfl), h1⟩, h.nd, h.ok⟩⟩
/-- A map that is ranged over. -/
def itr (ok : α → Prop) (enc : α → Value) (r b : Nat) (D todo : List (α × Value)) (cur : Option (α × Value)) : It := ⟨fun k => k = r ∨ k = b, fun w => Iter ok enc w r b D todo cur, fun w w' S h k n => by
  obtain ⟨es, clock, seen, hb, hr, h1⟩ := h.lay
  have hb' := k.get hb (n b (.inr rfl))
  refine ⟨?_, es, clock, seen, hb', k.get hr (n r (.inl rfl)), h1⟩
  obtain ⟨es2, clock2, hb2, h2⟩ := h.is.lay
  rw [hb] at hb2
  cases hb2
  exact ⟨⟨es, clock, hb', h2⟩, h.is.nd, h.is.ok⟩⟩
section
variable {F : Nat → Prop} {w0 w w' : World} {l : List It} {ok : α → Prop} {enc : α → Value} {b r : Nat} {D D' todo todo' : List (α × Value)} {cur cur' : Option (α × Value)}
theorem M.newMap (h : M F w0 w l) (ok : α → Prop) (enc : α → Value) {b : Nat} (hb : w.heap.size = b) : M F w0 (w.alloc (.map #[] 0)) (l ++ [mp ok enc b []]) := by
  subst hb
  exact h.add (x := mp ok enc w.heap.size []) ((Keep.refl _ _).alloc _) (is_new w) (fun k (hk : k = w.heap.size) => by subst hk; simp)
theorem M.setMap (h : M F w0 w l) (i : Nat) (hi : l[i]? = some (mp ok enc b D)) (hs : Is ok enc w' b D') (k : Keep (fun k => k = b) w w') : M F w0 w' (l.set i (mp ok enc b D')) :=
  h.upd i hi (S := fun k => k = b) k (fun _ h => h) (y := mp ok enc b D') hs (fun k hk => .inl hk)
theorem M.toItr (h : M F w0 w l) (i : Nat) (hi : l[i]? = some (mp ok enc b D)) (hs : Iter ok enc w' w.heap.size b D todo cur) (k : Keep (fun _ => False) w w') (hz : w'.heap.size = w.heap.size + 1) : M F w0 w' (l.set i (itr ok enc w.heap.size b D todo cur)) :=
  h.upd i hi (S := fun _ => False) k (fun _ h => h.elim) (y := itr ok enc w.heap.size b D todo cur) hs (fun k hk => by
    rcases hk with rfl | rfl
    · exact .inr ⟨Nat.le_refl _, by omega⟩
    · exact .inl rfl)
theorem M.stepItr (h : M F w0 w l) (i : Nat) (hi : l[i]? = some (itr ok enc r b D todo cur)) (hs : Iter ok enc w' r b D todo' cur') (k : Keep (fun k => k = r) w w') : M F w0 w' (l.set i (itr ok enc r b D todo' cur')) :=
  h.upd i hi (S := fun k => k = r) k (fun _ h => .inl h) (y := itr ok enc r b D todo' cur') hs (fun k hk => .inl hk)
theorem M.ofItr (h : M F w0 w l) (i : Nat) (hi : l[i]? = some (itr ok enc r b D todo cur)) : M F w0 w (l.set i (mp ok enc b D)) :=
  h.turn i hi (mp ok enc b D) ((show Iter ok enc w r b D todo cur from h.get i hi).is) (fun _ hk => .inr hk)
end
section
variable {ops : Array Oper} {rest : List Oper} {o : Oper} {a : Act} {w : World} {Q : Exit → Act → World → Prop} {K : TypeId} {ok : α → Prop} {enc : α → Value} (hK : Key P K ok enc) {T E : TypeId} (hT : P.underlying T = some (.map K E)) {b r : Nat} {D todo : List (α × Value)} {cur : Option (α × Value)}
include hK hT
/-- 'm[k]'. -/
theorem wl_look (hgd : o.guard = none) {m x : Operand} (ho : o.op = .lookup T m x false) (hm : a.eval m = .map (some b)) (h : Is ok enc w b D) {z : Value} (hz : ∀ w, (zeroValue E).run P w = .ok z w) {k : α} (hk : ok k) (hx : a.eval x = enc k) {v : Value} (hv : (get D k).getD z = v)
    (hh : wpList P ops Q rest (a.put o.dst v) w) : wpList P ops Q (o :: rest) a w :=
  wpList_plain hgd fun K' hK' => by
    subst hv
    unfold Oper.wp
    simp [execOp, ho, hm, hx, run_look hK hT h (hz w) hk]
    exact hK' _ _ hh
/-- 'v, ok := m[k]'. -/
theorem wl_lookok (hgd : o.guard = none) {m x : Operand} (ho : o.op = .lookup T m x true) (hm : a.eval m = .map (some b)) (h : Is ok enc w b D) {z : Value} (hz : ∀ w, (zeroValue E).run P w = .ok z w) {k : α} (hk : ok k) (hx : a.eval x = enc k) {v : Value} {t : Bool} (hv : (get D k).getD z = v) (ht : (get D k).isSome = t)
    (hh : wpList P ops Q rest (a.put o.dst (.tuple #[v, .bool t])) w) : wpList P ops Q (o :: rest) a w :=
  wpList_plain hgd fun K' hK' => by
    subst hv ht
    unfold Oper.wp
    simp [execOp, ho, hm, hx, run_look_ok hK hT h (hz w) hk]
    exact hK' _ _ hh
/-- 'm[k] = v'. -/
theorem wl_put (hgd : o.guard = none) {m x y : Operand} (ho : o.op = .mapUpdate T m x y) (hm : a.eval m = .map (some b)) (h : Is ok enc w b D) {k : α} (hk : ok k) (hx : a.eval x = enc k) {v : Value} (hv : a.eval y = v)
    (hh : ∀ w', Is ok enc w' b (put D k v) → Keep (fun k => k = b) w w' → wpList P ops Q rest (a.put o.dst undef) w') : wpList P ops Q (o :: rest) a w :=
  wpList_plain hgd fun K' hK' => by
    obtain ⟨w', hrun, h1, h2⟩ := run_put hK hT h hk v
    unfold Oper.wp
    simp [execOp, ho, hm, hx, hv, hrun]
    exact hK' _ _ (hh w' h1 h2)
omit hK
/-- 'len(m)'. -/
theorem wl_len (hgd : o.guard = none) {m : Operand} (ho : o.op = .call { callee := .builtin .len, args := #[m], argTypes := #[T] }) (hm : a.eval m = .map (some b)) (h : Is ok enc w b D) {n : Nat} (hn : D.length = n)
    (hh : wpList P ops Q rest (a.put o.dst (.int .i64 n)) w) : wpList P ops Q (o :: rest) a w :=
  wpList_plain hgd fun K' hK' => by
    subst hn
    unfold Oper.wp
    simp [execOp, ho, resolve, invoke, builtin, hm, run_len hT h o.type, Result.andThen]
    exact hK' _ _ hh
/-- 'clear(m)'. -/
theorem wl_clear (hgd : o.guard = none) {m : Operand} (ho : o.op = .call { callee := .builtin .clear, args := #[m], argTypes := #[T] }) (hm : a.eval m = .map (some b)) (h : Is ok enc w b D)
    (hh : ∀ w', Is ok enc w' b ([] : List (α × Value)) → Keep (fun k => k = b) w w' → wpList P ops Q rest (a.put o.dst (.tuple #[])) w') : wpList P ops Q (o :: rest) a w :=
  wpList_plain hgd fun K' hK' => by
    unfold Oper.wp
    simp [execOp, ho, resolve, invoke, builtin, hm, run_clr hT h o.type, Result.andThen]
    exact hK' _ _ (hh _ (is_clr h _) (setBlock_keep _ _ _))
/-- 'range m'. -/
theorem wl_range (hgd : o.guard = none) {m : Operand} (ho : o.op = .range T m) (hm : a.eval m = .map (some b)) (h : Is ok enc w b D)
    (hh : ∀ w', Iter ok enc w' w.heap.size b D D none → Keep (fun _ => False) w w' → w'.heap.size = w.heap.size + 1 → wpList P ops Q rest (a.put o.dst (.pointer (some ⟨w.heap.size, 0, none⟩))) w') : wpList P ops Q (o :: rest) a w :=
  wpList_plain hgd fun K' hK' => by
    obtain ⟨w', hrun, h1, h2, h3⟩ := run_range (P := P) hT h
    unfold Oper.wp
    simp [execOp, ho, hm, hrun]
    exact hK' _ _ (hh w' h1 h2 h3)
omit hT
/-- The loop's step. -/
theorem wl_next (hgd : o.guard = none) {it : Operand} (ho : o.op = .next it false) (hit : a.eval it = .pointer (some ⟨r, 0, none⟩)) (h : Iter ok enc w r b D todo cur)
    (h0 : todo = [] → wpList P ops Q rest (a.put o.dst (.tuple #[.bool false])) w)
    (h1 : ∀ l1 (p : α × Value) l2 w', todo = l1 ++ p :: l2 → Iter ok enc w' r b D (l1 ++ l2) (some p) → Keep (fun k => k = r) w w' → w'.heap.size = w.heap.size → wpList P ops Q rest (a.put o.dst (.tuple #[.bool true, enc p.1, p.2])) w') : wpList P ops Q (o :: rest) a w :=
  wpList_plain hgd fun K' hK' => by
    unfold Oper.wp
    rcases run_next (P := P) h o.type with ⟨e, hrun⟩ | ⟨l1, p, l2, w', e, hrun, g1, g2, g3⟩
    · simp [execOp, ho, hit, hrun]
      exact hK' _ _ (h0 e)
    · simp [execOp, ho, hit, hrun]
      exact hK' _ _ (h1 l1 p l2 w' e g1 g2 g3)
/-- The round's key and element. -/
theorem wl_entry (hgd : o.guard = none) {it : Operand} (ho : o.op = .entry it) (hit : a.eval it = .pointer (some ⟨r, 0, none⟩)) {p : α × Value} (h : Iter ok enc w r b D todo (some p))
    (hh : wpList P ops Q rest (a.put o.dst (.tuple #[enc p.1, p.2])) w) : wpList P ops Q (o :: rest) a w :=
  wpList_plain hgd fun K' hK' => by
    unfold Oper.wp
    simp [execOp, ho, hit, run_entry (P := P) h]
    exact hK' _ _ hh
end
end Mp
end Go.Proofs.YthllhjdaknmlbaaDoor
