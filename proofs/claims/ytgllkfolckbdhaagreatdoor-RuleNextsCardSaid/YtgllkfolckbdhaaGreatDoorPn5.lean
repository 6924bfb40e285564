/-
  Structs made of their parts; the pen: what a waiter is made of.
-/
import Derived.Test.YtgllkfolckbdhaaGreatDoorPn4
set_option linter.unusedVariables false
set_option linter.unusedSimpArgs false
namespace Go.Proofs.YtgllkfolckbdhaaGreatDoor
open Go.RowKit
namespace St
theorem fold_set : ∀ (cs : List Value) (off j : Nat) (cells : List Value), off + j + cs.length ≤ cells.length →
    ((cs.zipIdx j).foldl (fun (a : Array Value) (p : Value × Nat) => a.setIfInBounds (off + p.2) p.1) cells.toArray) = (cells.take (off + j) ++ cs ++ cells.drop (off + j + cs.length)).toArray
  | [], off, j, cells, h => by simp
  | c :: cs, off, j, cells, h => by
    simp only [List.length_cons] at h
    rw [List.zipIdx_cons, List.foldl_cons, List.setIfInBounds_toArray, fold_set cs off (j + 1) (cells.set (off + j) c) (by rw [List.length_set]; omega)]
    refine congrArg List.toArray ?_
    have hlt : off + j < cells.length := by omega
    have e1 : (cells.set (off + j) c).take (off + (j + 1)) = cells.take (off + j) ++ [c] := by
      rw [show off + (j + 1) = off + j + 1 by omega, List.take_add_one, List.take_set_of_le (Nat.le_refl _), List.getElem?_set_self hlt]
      rfl
    have e2 : (cells.set (off + j) c).drop (off + (j + 1) + cs.length) = cells.drop (off + j + (c :: cs).length) := by
      rw [List.drop_set_of_lt (by omega), List.length_cons]
      congr 1; omega
    rw [e1, e2]
    simp
theorem fill_cons {place : Nat → Option (Nat × Nat)} {cells : List Value} {i off size : Nat} {v : Value} {rest : List (Nat × Value)} {cs : List Value} (hp : place i = some (off, size)) (hv : v.cells = cs.toArray) (hs : cs.length = size) (hb : off + size ≤ cells.length) :
    Instr.fill place cells.toArray ((i, v) :: rest) = Instr.fill place (cells.take off ++ cs ++ cells.drop (off + size)).toArray rest := by
  have h1 : ¬ ((v.cells.size ≠ size || off + v.cells.size > cells.toArray.size) = true) := by
    rw [hv]
    simp [hs]
    omega
  rw [Instr.fill]
  simp only [hp]
  rw [if_neg h1, hv]
  have := fold_set cs off 0 cells (by omega)
  rw [Nat.add_zero, hs] at this
  rw [← this]
  simp
theorem run_fld {P : Program} {T : TypeId} {fs : Array Field} {f : Field} {i k : Nat} (hu : P.underlying T = some (.struct fs)) (hf : fs[i]? = some f) (ht : ∃ d, P.underlying f.type = some d ∧ (match d with | .struct _ | .array _ _ => true | _ => false) = true) (hs : (P.info? f.type).map (·.size) = some k) (cs : Array Value) (w : World) :
    (Instr.field T (.agg cs) i).run P w = .ok (.agg (cs.extract f.offset (f.offset + k))) w := by
  obtain ⟨d, hd, hd2⟩ := ht
  cases hq : P.info? f.type with
  | none => rw [hq] at hs; cases hs
  | some q =>
    rw [hq] at hs
    have hs' : q.size = k := by simpa using hs
    cases d <;> simp at hd2 <;> simp [Instr.field, run_underlying hu, hf, part, isAgg, run_underlying hd, sizeOf, typeInfo, hq, hs', asAgg]
section
variable {ops : Array Oper} {rest : List Oper} {o : Oper} {a : Act} {w : World} {Q : Exit → Act → World → Prop}
/-- A struct's part, of a struct by value. -/
theorem wl_field (hgd : o.guard = none) {T : TypeId} {x : Operand} {i : Nat} (ho : o.op = .field T x i) {cs : Array Value} (hx : a.eval x = .agg cs) {v : Value} (hr : ∀ w, (Instr.field T (.agg cs) i).run Tryz.prog w = .ok v w)
    (h : wpList Tryz.prog ops Q rest (a.put o.dst v) w) : wpList Tryz.prog ops Q (o :: rest) a w :=
  wpList_plain hgd fun K hK => by
    unfold Oper.wp execOp
    simp only [ho, hx, Sem.run_bind, hr, Result.andThen_ok, Sem.run_pure]
    exact hK _ _ h
end
end St
namespace Mem
/-- Two things held as one. -/
theorem M.join {F : Nat → Prop} {w0 w : World} {l : List It} {x y : It} (h : M F w0 w (l ++ [x, y])) (z : It) (hz : x.holds w → y.holds w → z.holds w) (hf : ∀ k, z.foot k → x.foot k ∨ y.foot k) : M F w0 w (l ++ [z]) := by
  have ix : (l ++ [x, y])[l.length]? = some x := by simp
  have iy : (l ++ [x, y])[l.length + 1]? = some y := by simp
  have at_ : ∀ (i : Nat) (u : It), (l ++ [z])[i]? = some u → ((l ++ [x, y])[i]? = some u ∧ i < l.length) ∨ (u = z ∧ i = l.length) := by
    intro i u hi
    rcases Nat.lt_or_ge i l.length with hlt | hge
    · rw [List.getElem?_append_left hlt] at hi
      exact .inl ⟨by rw [List.getElem?_append_left hlt]; exact hi, hlt⟩
    · rw [List.getElem?_append_right hge] at hi
      have h0 := (List.getElem?_eq_some_iff.1 hi).1
      simp at h0
      have h1 : i = l.length := by omega
      subst h1
      simp at hi
      exact .inr ⟨hi.symm, rfl⟩
  refine ⟨fun i u hi => ?_, fun i j u v hi hj hij k hu hv => ?_, fun i u hi k hk => ?_, h.keep⟩
  · rcases at_ i u hi with ⟨h1, _⟩ | ⟨rfl, _⟩
    · exact h.all i u h1
    · exact hz (h.all _ x ix) (h.all _ y iy)
  · rcases at_ i u hi with ⟨h1, e1⟩ | ⟨rfl, e1⟩ <;> rcases at_ j v hj with ⟨h2, e2⟩ | ⟨rfl, e2⟩
    · exact h.dis i j u v h1 h2 hij k hu hv
    · rcases hf k hv with e | e
      · exact h.dis i l.length u x h1 ix (by omega) k hu e
      · exact h.dis i (l.length + 1) u y h1 iy (by omega) k hu e
    · rcases hf k hu with e | e
      · exact h.dis j l.length v x h2 ix (by omega) k hv e
      · exact h.dis j (l.length + 1) v y h2 iy (by omega) k hv e
    · omega
  · rcases at_ i u hi with ⟨h1, _⟩ | ⟨rfl, _⟩
    · exact h.rng i u h1 k hk
    · rcases hf k hk with e | e
      · exact h.rng _ x ix k e
      · exact h.rng _ y iy k e
/-- Some things held as one. -/
theorem M.pack {F : Nat → Prop} {w0 w : World} {l s : List It} (h : M F w0 w (l ++ s)) (z : It) (hz : z.holds w) (hf : ∀ k, z.foot k → ∃ (i : Nat) (y : It), s[i]? = some y ∧ y.foot k) : M F w0 w (l ++ [z]) := by
  have at_ : ∀ (i : Nat) (u : It), (l ++ [z])[i]? = some u → ((l ++ s)[i]? = some u ∧ i < l.length) ∨ (u = z ∧ i = l.length) := by
    intro i u hi
    rcases Nat.lt_or_ge i l.length with hlt | hge
    · rw [List.getElem?_append_left hlt] at hi
      exact .inl ⟨by rw [List.getElem?_append_left hlt]; exact hi, hlt⟩
    · rw [List.getElem?_append_right hge] at hi
      have h0 := (List.getElem?_eq_some_iff.1 hi).1
      simp at h0
      have h1 : i = l.length := by omega
      subst h1
      simp at hi
      exact .inr ⟨hi.symm, rfl⟩
  have fr : ∀ k, z.foot k → ∃ (i : Nat) (y : It), (l ++ s)[i]? = some y ∧ l.length ≤ i ∧ y.foot k := fun k hk => by
    obtain ⟨i, y, h1, h2⟩ := hf k hk
    exact ⟨l.length + i, y, by rw [List.getElem?_append_right (Nat.le_add_right _ _), Nat.add_sub_cancel_left]; exact h1, Nat.le_add_right _ _, h2⟩
  refine ⟨fun i u hi => ?_, fun i j u v hi hj hij k hu hv => ?_, fun i u hi k hk => ?_, h.keep⟩
  · rcases at_ i u hi with ⟨h1, _⟩ | ⟨rfl, _⟩
    · exact h.all i u h1
    · exact hz
  · rcases at_ i u hi with ⟨h1, e1⟩ | ⟨rfl, e1⟩ <;> rcases at_ j v hj with ⟨h2, e2⟩ | ⟨rfl, e2⟩
    · exact h.dis i j u v h1 h2 hij k hu hv
    · obtain ⟨q, y, g1, g2, g3⟩ := fr k hv
      exact h.dis i q u y h1 g1 (by omega) k hu g3
    · obtain ⟨q, y, g1, g2, g3⟩ := fr k hu
      exact h.dis j q v y h2 g1 (by omega) k hv g3
    · omega
  · rcases at_ i u hi with ⟨h1, _⟩ | ⟨rfl, _⟩
    · exact h.rng i u h1 k hk
    · obtain ⟨q, y, g1, g2, g3⟩ := fr k hk
      exact h.rng q y g1 k g3
theorem M.drop {F : Nat → Prop} {w0 w : World} {l : List It} (h : M F w0 w l) (n : Nat) : M F w0 w (l.drop n) := by
  have at_ : ∀ (i : Nat) (x : It), (l.drop n)[i]? = some x → l[n + i]? = some x := by
    intro i x hi
    rwa [List.getElem?_drop] at hi
  exact ⟨fun i x hi => h.all _ x (at_ i x hi), fun i j x y hi hj hij => h.dis _ _ x y (at_ i x hi) (at_ j y hj) (by omega), fun i x hi => h.rng _ x (at_ i x hi), h.keep⟩
end Mem
namespace Pn
open Oct Ids Gn Hd
open Mem (M It blk ids rows)
theorem cells_agg (l : List Value) : (Value.agg l.toArray).cells = l.toArray := rfl
theorem ext_id (x : Wt) : (we x).toArray.extract 38 (38 + 32) = (x.id.map bv).toArray := by
  apply Array.toList_inj.1
  rw [Array.toList_extract]
  simp only [List.extract_eq_take_drop, List.toList_toArray]
  rw [we_mid]
  exact List.take_left' (by rw [List.length_map, x.hid])
/-- One more waits. -/
theorem add_par {F : Nat → Prop} {w0 w : World} {L : List Wt} {x : Wt} {l : List It} (h : M F w0 w (l ++ [pars L, ids (.slice x.a x.n x.c) x.l])) : M F w0 w (l ++ [pars (L ++ [x])]) := by
  refine h.join _ (fun h1 h2 y hy => ?_) (fun k ⟨y, hy, off, e⟩ => ?_)
  · rcases List.mem_append.1 hy with hy | hy
    · exact h1 y hy
    · obtain rfl := List.mem_singleton.1 hy
      have h2' : Own w (.slice y.a y.n y.c) y.l := h2
      obtain ⟨a, c, e, hat, _⟩ := h2'.at
      simp only [Value.slice.injEq] at e
      obtain ⟨e1, e2, _⟩ := e
      rw [e1, e2]
      exact hat
  · rcases List.mem_append.1 hy with hy | hy
    · exact .inl ⟨y, hy, off, e⟩
    · obtain rfl := List.mem_singleton.1 hy
      exact .inr (by show (Value.slice y.a y.n y.c).ownBlock = some k; rw [e]; rfl)
end Pn
end Go.Proofs.YtgllkfolckbdhaaGreatDoor
