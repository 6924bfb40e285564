/-
  seq.Put.
-/
import Derived.Test.YtgpimeobkacniaaGreatGSqE
set_option linter.unusedVariables false
set_option linter.unusedSimpArgs false
namespace Go.Proofs.YtgpimeobkacniaaGreat
open Go.RowKit
namespace Txt
section
variable {P : Program} {ops : Array Oper} {S : World → Prop} {o : Oper} {rest : List Oper} {ts : List Nat} {a : Act} {w : World} {Q : Act → World → Prop}
/-- A conversion that reads memory. -/
theorem tl_convQ (hw : Region.wanted o (yielded ops a.tmps) = true) {t1 t2 : TypeId} {x : Operand} (ho : o.op = .convert t1 t2 x) {u v : Value} (hx : a.eval x = u) (h : ∀ w2, S w2 → (convert t1 t2 u).run P w2 = .ok v w2) (k : wpTG P ops S Q rest ts (a.put o.dst v) w) : wpTG P ops S Q (o :: rest) (2 :: ts) a w :=
  tl_readS hw (fun w2 hs => by
    unfold execOp
    simp only [ho, hx, Sem.run_bind, h w2 hs, Result.andThen_ok, Sem.run_pure]) k
theorem tl_convR (hw : Region.wanted o (yielded ops a.tmps) = true) {t1 t2 : TypeId} {x : Operand} (ho : o.op = .convert t1 t2 x) {u v : Value} (hx : a.eval x = u) (h : ∀ w2, Le w w2 → (convert t1 t2 u).run P w2 = .ok v w2) (k : wpTG P ops S Q rest ts (a.put o.dst v) w) : wpTG P ops S Q (o :: rest) (1 :: ts) a w :=
  tl_read hw (fun w2 hs => by
    unfold execOp
    simp only [ho, hx, Sem.run_bind, h w2 hs, Result.andThen_ok, Sem.run_pure]) k
end
end Txt
namespace Sq
open Oct Ids Mp
open Mem (M It blk ids rows)
open OctRd (be_len)
def prI (y z : It) : It := ⟨fun k => y.foot k ∨ z.foot k, fun w => y.holds w ∧ z.holds w, fun w w' S h k n => ⟨y.stable w w' S h.1 k (fun j hj => n j (.inl hj)), z.stable w w' S h.2 k (fun j hj => n j (.inr hj))⟩⟩
/-- A call that leaves two things where one was. -/
theorem M.two {F : Nat → Prop} {w0 w w' : World} {l : List It} {x y z : It} (h : M F w0 w l) (i : Nat) (hi : l[i]? = some x) (m : M x.foot w w' [y, z]) : M F w0 w' (l.set i y ++ [z]) := by
  have h1 := h.upd i hi m.keep (fun _ h => h) (y := prI y z) ⟨m.get 0 rfl, m.get 1 rfl⟩ (fun k hk => by
    rcases hk with hk | hk
    · have := m.rng 0 _ rfl k hk
      exact this.1.elim (fun h => .inr ⟨h, this.2⟩) .inl
    · have := m.rng 1 _ rfl k hk
      exact this.1.elim (fun h => .inr ⟨h, this.2⟩) .inl)
  have hlt := (List.getElem?_eq_some_iff.1 hi).1
  have hpi : (l.set i (prI y z))[i]? = some (prI y z) := List.getElem?_set_self hlt
  have at_ : ∀ (j : Nat) (u : It), (l.set i y ++ [z])[j]? = some u → (j ≠ i ∧ (l.set i (prI y z))[j]? = some u) ∨ (j = i ∧ u = y) ∨ (j = l.length ∧ u = z) := by
    intro j u hj
    rcases Nat.lt_or_ge j l.length with hl | hg
    · rw [List.getElem?_append_left (by rw [List.length_set]; exact hl)] at hj
      by_cases e : j = i
      · subst e
        rw [List.getElem?_set_self hlt] at hj
        exact .inr (.inl ⟨rfl, (Option.some.inj hj).symm⟩)
      · rw [List.getElem?_set_ne (Ne.symm e)] at hj
        exact .inl ⟨e, by rw [List.getElem?_set_ne (Ne.symm e)]; exact hj⟩
    · rw [List.getElem?_append_right (by rw [List.length_set]; exact hg), List.length_set] at hj
      have h0 := (List.getElem?_eq_some_iff.1 hj).1
      simp at h0
      have e : j = l.length := by omega
      subst e
      simp at hj
      exact .inr (.inr ⟨rfl, hj.symm⟩)
  have hyz : ∀ k, y.foot k → ¬ z.foot k := fun k hy hz => m.dis 0 1 _ _ rfl rfl (by decide) k hy hz
  refine ⟨fun j u hj => ?_, fun j q u v hj hq hjq k hu hv => ?_, fun j u hj k hk => ?_, h1.keep⟩
  · rcases at_ j u hj with ⟨_, h2⟩ | ⟨_, rfl⟩ | ⟨_, rfl⟩
    · exact h1.all j u h2
    · exact m.get 0 rfl
    · exact m.get 1 rfl
  · rcases at_ j u hj with ⟨n1, h2⟩ | ⟨e1, rfl⟩ | ⟨e1, rfl⟩ <;> rcases at_ q v hq with ⟨n2, h3⟩ | ⟨e2, rfl⟩ | ⟨e2, rfl⟩
    · exact h1.dis j q u v h2 h3 hjq k hu hv
    · exact h1.dis j i u _ h2 hpi n1 k hu (.inl hv)
    · exact h1.dis j i u _ h2 hpi n1 k hu (.inr hv)
    · exact h1.dis q i v _ h3 hpi n2 k hv (.inl hu)
    · omega
    · exact hyz k hu hv
    · exact h1.dis q i v _ h3 hpi n2 k hv (.inr hu)
    · exact hyz k hv hu
    · omega
  · rcases at_ j u hj with ⟨_, h2⟩ | ⟨_, rfl⟩ | ⟨_, rfl⟩
    · exact h1.rng j u h2 k hk
    · exact h1.rng i _ hpi k (.inl hk)
    · exact h1.rng i _ hpi k (.inr hk)
theorem withL_len (l : List Wd) (x : Wd) : (IdL.withL l x).length ≤ l.length + 1 := by
  unfold IdL.withL
  split
  · omega
  · rw [List.length_append, List.length_cons, ← Nat.add_assoc, ← List.length_append, List.takeWhile_append_dropWhile]
    exact Nat.le_refl _
theorem two {F : Nat → Prop} {w0 w w' : World} {l : List It} {x y z : It} (h : M F w0 w l) (i : Nat) (hi : l[i]? = some x) (m : M x.foot w w' [y, z]) : M F w0 w' (l.set i y ++ [z]) := M.two h i hi m
theorem nrg_h {w : World} {b : Nat} {x : Nd} (h : w.rangeAt b 0 (ne x)) : w.cell? ⟨b, 0, none⟩ = some (.int .i64 x.h) := h 0 _ rfl
theorem nrg_v {w : World} {b : Nat} {x : Nd} (h : w.rangeAt b 0 (ne x)) : w.cell? ⟨b, 33, none⟩ = some (.string x.v) := by
  have e := ne_val x
  rw [List.getElem?_toArray] at e
  have := h 33 _ e
  rwa [Nat.zero_add] at this
theorem nrg_r {w : World} {b : Nat} {x : Nd} (h : w.rangeAt b 0 (ne x)) : w.rangeAt b 1 (x.r.map bv) := fun j v hj => by
  have e := h (1 + j) v (by
    unfold ne
    rw [Nat.add_comm, List.getElem?_cons_succ, List.getElem?_append_left (List.getElem?_eq_some_iff.1 hj).1]
    exact hj)
  rwa [Nat.zero_add] at e
end Sq
end Go.Proofs.YtgpimeobkacniaaGreat
