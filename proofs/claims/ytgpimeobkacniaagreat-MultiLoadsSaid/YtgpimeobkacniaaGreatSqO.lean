/-
  Plain law: what the calls make of the document's list; the order plays no part; put and loaded.
-/
import Derived.Test.YtgpimeobkacniaaGreatSqP
import Derived.Test.YtgpimeobkacniaaGreatSqR
set_option linter.unusedVariables false
set_option linter.unusedSimpArgs false
namespace Go.Proofs.YtgpimeobkacniaaGreat
open Go.RowKit
namespace Sq
open Oct Ids Seg
theorem pw_unique {α : Type} {r : α → α → Prop} (hr : ∀ a b, r a b → ¬ r b a) : ∀ (l m : List α), l.Pairwise r → m.Pairwise r → (∀ x, x ∈ l ↔ x ∈ m) → l = m
  | [], [], _, _, _ => rfl
  | [], b :: m, _, _, h => by have := (h b).2 List.mem_cons_self; cases this
  | a :: l, [], _, _, h => by have := (h a).1 List.mem_cons_self; cases this
  | a :: l, b :: m, hl, hm, h => by
    rw [List.pairwise_cons] at hl hm
    have na : a ∉ l := fun hc => hr _ _ (hl.1 a hc) (hl.1 a hc)
    have nb : b ∉ m := fun hc => hr _ _ (hm.1 b hc) (hm.1 b hc)
    have e : a = b := Classical.byContradiction fun hne => by
      have h1 : a ∈ m := by rcases List.mem_cons.1 ((h a).1 List.mem_cons_self) with h1 | h1; exact absurd h1 hne; exact h1
      have h2 : b ∈ l := by rcases List.mem_cons.1 ((h b).2 List.mem_cons_self) with h1 | h1; exact absurd h1.symm hne; exact h1
      exact hr _ _ (hl.1 b h2) (hm.1 a h1)
    subst e
    refine congrArg (a :: ·) (pw_unique hr l m hl.2 hm.2 fun x => ⟨fun hx => ?_, fun hx => ?_⟩)
    · rcases List.mem_cons.1 ((h x).1 (List.mem_cons_of_mem _ hx)) with rfl | h1
      · exact absurd hx na
      · exact h1
    · rcases List.mem_cons.1 ((h x).2 (List.mem_cons_of_mem _ hx)) with rfl | h1
      · exact absurd hx nb
      · exact h1
end Sq
end Go.Proofs.YtgpimeobkacniaaGreat
