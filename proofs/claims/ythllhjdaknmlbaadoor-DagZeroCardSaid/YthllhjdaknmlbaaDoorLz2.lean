/-
  What the laid tables of sha hold, out of the rows' condition; the opening of an id that comes in by value.
-/
import Derived.Test.YthllhjdaknmlbaaDoorLz0
import Derived.Test.YthllhjdaknmlbaaDoorGOp
import Derived.Test.YthllhjdaknmlbaaDoorGSh
set_option linter.unusedVariables false
set_option linter.unusedSimpArgs false
namespace Go.Proofs.YthllhjdaknmlbaaDoor
open Go.RowKit
namespace Lad
open Go.ChangeShapes Go.WideShapes Go.ChangeAt
theorem gFirst : Tryd.prog.globalNamed "petrel/sha.first" = some 0 := by kernel_rfl
theorem gK : Tryd.prog.globalNamed "petrel/sha.k" = some 1 := by kernel_rfl
def FV : List Int := Sha.H0.map fun x => (x.toNat : Int)
def KV : List Int := Sha.K.map fun x => (x.toNat : Int)
theorem sha_of {W : World} (h : laidMetH Tryd.prog [("petrel/sha.first", Rows.laid_petrel_sha_first), ("petrel/sha.k", Rows.laid_petrel_sha_k)] W) : Sha.TabF W ∧ Sha.TabK W := by
  rw [MakeChecks.laidMetH_plain _ _ _ (by kernel_rfl)] at h
  obtain ⟨ps, ⟨g0, t0, cs0, f0, p0, q0, hg0, ht0, hv0, hd0, ⟨g1, t1, cs1, f1, p1, q1, hg1, ht1, hv1, hd1, _, _⟩, _⟩, _, _⟩ := h
  obtain rfl := Option.some.inj (gFirst.symm.trans hg0)
  obtain rfl := Option.some.inj (gK.symm.trans hg1)
  have tF : (Tryd.prog.globals[0]?).map (·.type) = some 107 := by kernel_rfl
  obtain rfl := Option.some.inj (tF.symm.trans ht0)
  have tK : (Tryd.prog.globals[1]?).map (·.type) = some 121 := by kernel_rfl
  obtain rfl := Option.some.inj (tK.symm.trans ht1)
  have hf := arr_cells (vals := FV) (k := .u32) Tryd.underlying107 Tryd.underlying97 (by kernel_rfl) hd0 rfl
  have hk := arr_cells (vals := KV) (k := .u32) Tryd.underlying121 Tryd.underlying97 (by kernel_rfl) hd1 rfl
  have hF := tab_of gFirst hv0 (L := Sha.H0.map Sha.uv) (fun i x hi => by
    rw [List.getElem?_map] at hi
    cases hx : Sha.H0[i]? with
    | none => rw [hx] at hi; cases hi
    | some y =>
      rw [hx] at hi
      cases hi
      exact hf i _ (by unfold FV; rw [List.getElem?_map, hx]; rfl)) (by decide)
  have hK := tab_of gK hv1 (L := Sha.K.map Sha.uv) (fun i x hi => by
    rw [List.getElem?_map] at hi
    cases hx : Sha.K[i]? with
    | none => rw [hx] at hi; cases hi
    | some y =>
      rw [hx] at hi
      cases hi
      exact hk i _ (by unfold KV; rw [List.getElem?_map, hx]; rfl)) (by decide)
  refine ⟨hF, hK.1, fun i hi => ?_⟩
  have h := hK.2 i (Sha.uv (Sha.K.getD i 0)) (by
    have e : i < Sha.K.length := hi
    rw [List.getElem?_map, List.getD_eq_getElem?_getD, List.getElem?_eq_getElem e]; rfl)
  rwa [Nat.zero_add] at h
end Lad
end Go.Proofs.YthllhjdaknmlbaaDoor
