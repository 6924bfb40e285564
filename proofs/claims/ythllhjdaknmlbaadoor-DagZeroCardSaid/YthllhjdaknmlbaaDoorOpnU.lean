/-
  Ids and rows of ids that came in.
-/
import Derived.Test.YthllhjdaknmlbaaDoorGOp
set_option linter.unusedVariables false
set_option linter.unusedSimpArgs false
namespace Go.Proofs.YthllhjdaknmlbaaDoor
open Go.RowKit Go.ChangeShapes Go.WideShapes Go.ChangeAt
namespace Opn
theorem okWide_array {P : Program} {w : World} {r : Reach} {base : Nat} {t : TypeId} {v : Value} {n : Nat} {e : TypeId} (ht : P.underlying t = some (.array n e)) (h : Value.okWide P w r base t v) : ∃ cs, v = .agg cs := by
  simp only [Value.okWide, ht] at h
  obtain ⟨cs, h1, _⟩ := h
  exact ⟨cs, h1⟩
set_option maxRecDepth 100000 in
theorem open_id {H : Type} {enc : TypeId × Value → H} {W : World} {base : Nat} {v : Value} {d : DataW H} {p : List MemPlace}
    (hval : Value.okWide Tryd.prog W .any base 24 v) (h : DataW.Trod enc Tryd.prog W 0 (fun _ => true) true 24 v d p) : ∃ x : List UInt8, v = Ids.idv x ∧ x.length = 32 := by
  obtain ⟨cs, rfl⟩ := okWide_array Tryd.underlying24 hval
  obtain ⟨fuel, hf⟩ := h
  obtain ⟨x, e, h1, _⟩ := rd_id.op H enc W fuel _ _ hf
  refine ⟨x, ?_, h1⟩
  show Value.agg cs = .agg (x.map Oct.bv).toArray
  rw [← e]
  simp [Value.cells]
theorem rd_idl : Rd Tryd.prog 22 1 (fun x : Sl (List UInt8) => [x.val]) (SlAt 32 (fun x => x.map Oct.bv) fun _ x => x.length = 32) (fun x => (x.els.map fun _ => 32).sum + 1) :=
  rd_slice Tryd.underlying22 (by kernel_rfl) (by omega) rd_id
theorem at_of {W : World} {s : Sl (List UInt8)} (h : SlAt 32 (fun x => x.map Oct.bv) (fun _ x => x.length = 32) W s) : Ids.At W s.a s.len s.els := by
  obtain ⟨h1, h2, h3, h4⟩ := h
  refine ⟨h1, fun x hx => ?_, Nat.le_trans h2 h3, ?_⟩
  · rcases h4 with h4 | ⟨b, off, _, _, hel⟩
    · rw [h4] at h1
      rw [List.eq_nil_of_length_eq_zero h1] at hx
      cases hx
    · obtain ⟨i, hi⟩ := List.getElem?_of_mem hx
      exact (hel i x hi).2
  · exact h4.imp id fun ⟨b, off, ha, hb, hel⟩ => ⟨b, off, ha, hb, fun i x hi => (hel i x hi).1⟩
set_option maxRecDepth 100000 in
theorem open_idl {H : Type} {enc : TypeId × Value → H} {W : World} {base : Nat} {v : Value} {d : DataW H} {p : List MemPlace}
    (hval : Value.okWide Tryd.prog W .any base 22 v) (h : DataW.Trod enc Tryd.prog W 0 (fun _ => true) true 22 v d p) : ∃ a n c els, v = .slice a n c ∧ Ids.At W a n els := by
  obtain ⟨x, e, h1, _⟩ := open_sl Tryd.underlying22 rd_idl hval h
  exact ⟨_, _, _, _, e, at_of h1⟩
theorem at_leaves {W W' : World} {a : Option Addr} {n : Nat} {l : List (List UInt8)} (h1 : Ids.At W a n l) (hl : ∀ (b : Nat) (o : Obj), W.heap[b]? = some o → W'.heap[b]? = some o) (hr : ∀ (b i : Nat) (cs : List Value), W.rangeAt b i cs → W'.rangeAt b i cs) : Ids.At W' a n l := by
  refine ⟨h1.len, h1.size, h1.most, h1.lay.imp id ?_⟩
  rintro ⟨b, off, ha, hb, hel⟩
  have ho := hl b W.heap[b] (Array.getElem?_eq_getElem hb)
  exact ⟨b, off, ha, (Array.getElem?_eq_some_iff.1 ho).1, fun i x hi => hr _ _ _ (hel i x hi)⟩
end Opn
end Go.Proofs.YthllhjdaknmlbaaDoor
