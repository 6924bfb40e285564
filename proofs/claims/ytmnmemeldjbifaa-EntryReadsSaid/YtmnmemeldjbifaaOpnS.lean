/-
  A slice that came in, opened.
-/
import Derived.Test.YtmnmemeldjbifaaOpen
set_option linter.unusedVariables false
set_option linter.unusedSimpArgs false
namespace Go.Proofs.Ytmnmemeldjbifaa
open Go.RowKit Go.ChangeShapes Go.WideShapes Go.ChangeAt
namespace Opn
theorem open_sl {P : Program} {T e : TypeId} {n : Nat} {β : Type} {lay : β → List Value} {fact : World → β → Prop} {bk : Sl β → Nat} {H : Type} {enc : TypeId × Value → H} {W : World} {base : Nat} {v : Value} {d : DataW H} {p : List MemPlace}
    (hT : P.underlying T = some (.slice e)) (hr : Rd P T 1 (fun x : Sl β => [x.val]) (SlAt n lay fact) bk) (hval : Value.okWide P W .any base T v)
    (h : DataW.Trod enc P W 0 (fun _ => true) true T v d p) : ∃ x : Sl β, v = .slice x.a x.len x.cap ∧ SlAt n lay fact W x ∧ bk x ≤ Rows.uptoBulk d := by
  obtain ⟨a, len, cap, rfl⟩ := okWide_slice hT hval
  obtain ⟨fuel, hf⟩ := h
  obtain ⟨x, e, h1, h2⟩ := hr.op H enc W fuel _ _ hf
  refine ⟨x, ?_, h1, h2⟩
  simpa [Value.cells, Sl.val] using e
end Opn
end Go.Proofs.Ytmnmemeldjbifaa
