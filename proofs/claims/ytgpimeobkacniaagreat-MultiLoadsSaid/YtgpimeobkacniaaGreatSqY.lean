/-
  The document's Check, Insert, Delete.
-/
import Derived.Test.YtgpimeobkacniaaGreatSqX
import Derived.Test.YtgpimeobkacniaaGreatGRf
import Derived.Test.YtgpimeobkacniaaGreatSq8
set_option linter.unusedVariables false
set_option linter.unusedSimpArgs false
namespace Go.Proofs.YtgpimeobkacniaaGreat
open Go.RowKit
namespace Sq
open Oct Ids Mp
open Mem (M It blk ids rows)
theorem row0 {F : Nat → Prop} {w0 w : World} {l : List It} (h : M F w0 w l) {α : Type} {T : TypeId} {n : Nat} {enc : α → List Value} (hE : St.Enc n enc) {b : Nat} (hb : w.heap.size = b) : M F w0 (w.alloc (.cells #[] T)) (l ++ [rows T n enc (.slice (some ⟨b, 0, none⟩) 0 0) ([] : List α)]) := by
  subst hb
  exact h.add (x := rows T n enc (.slice (some ⟨w.heap.size, 0, none⟩) 0 0) []) ((Keep.refl _ _).alloc _) (St.own0 hE w) (fun k hk => by have e : w.heap.size = k := Option.some.inj hk; subst e; simp)
theorem own_sl {α : Type} {T : TypeId} {n : Nat} {enc : α → List Value} {w : World} {a : Option Addr} {q c : Nat} {L : List α} (h : St.Own T n enc w (.slice a q c) L) : L.length = q ∧ St.At n enc w a q L := by
  obtain ⟨a', c', e, hat⟩ := h.any
  simp only [Value.slice.injEq] at e
  obtain ⟨rfl, rfl, rfl⟩ := e
  exact ⟨rfl, hat⟩
theorem own_fm {α : Type} {T : TypeId} {n : Nat} {enc : α → List Value} {w : World} {a : Option Addr} {q c : Nat} {L : List α} (h : St.Own T n enc w (.slice a q c) L) : q ≤ c ∧ c ≤ maxLen ∧ ((a = none ∧ q = 0 ∧ c = 0) ∨ ∃ g, a = some ⟨g, 0, none⟩) := by
  obtain ⟨hl, h1 | ⟨g, cap, cur, e, _, _, hlc, hcm, _⟩⟩ := h.own
  · have e := h1.1
    simp only [Value.slice.injEq] at e
    obtain ⟨rfl, rfl, rfl⟩ := e
    exact ⟨Nat.le_refl _, Nat.zero_le _, .inl ⟨rfl, rfl, rfl⟩⟩
  · simp only [Value.slice.injEq] at e
    obtain ⟨rfl, rfl, rfl⟩ := e
    exact ⟨hlc, hcm, .inr ⟨g, rfl⟩⟩
section
variable {ops : Array Oper} {rest : List Oper} {o : Oper} {a : Act} {w : World} {Q : Exit → Act → World → Prop}
/-- 'api.Id{}', guarded or not. -/
theorem wl_buildZ (hw : Region.wanted o (yielded ops a.tmps) = true) (ho : o.op = .build 38 #[]) (h : wpList Tryz.prog ops Q rest (a.put o.dst (.agg z32)) w) : wpList Tryz.prog ops Q (o :: rest) a w :=
  wpList_step fun K hK => by
    rw [if_pos hw]
    have hr : ∀ w, (execOp a.eval o).run Tryz.prog w = .ok (.value (.agg z32)) w := ex_buildL ho [] rfl (by kernel_rfl)
    unfold Oper.wp
    rw [hr]
    exact hK _ _ h
end
end Sq
end Go.Proofs.YtgpimeobkacniaaGreat
