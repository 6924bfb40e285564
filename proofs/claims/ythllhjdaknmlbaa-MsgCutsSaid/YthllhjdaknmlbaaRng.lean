/-
  A range over a function: a region in a round, walked as anywhere else.
-/
import Derived.RangeFuncNested
import Derived.RangeFuncBound
import Derived.RangeFuncCalls
import Derived.RangeFuncLeaves
import Derived.Shelf.Abstract
import Derived.Shelf.RegionOpen
import Derived.WalkKit
import Derived.OwnWalkIn
import Derived.TacticsInMore
import Derived.LoopNIn
import Derived.LoopIn
import Derived.Test.YthllhjdaknmlbaaGMm
set_option linter.unusedVariables false
set_option linter.unusedSimpArgs false
namespace Go.Proofs.Ythllhjdaknmlbaa
open Go.RowKit
namespace Txt
section
variable {P : Program} {n l : Nat} {ops : Array Oper} {o : Oper} {a : Act} {w : World} {Q : Exit → Act → World → Prop}
theorem rows_round {row : String} {args : Array Value} {R : Value → World → Prop} (h : Rows P row args w R) : RowsIn (Fence.wide.inRound l) n P row args w R := fun c cs _ =>
  let ⟨v, w', r, s⟩ := h c cs
  ⟨v, w', r, stepsIn_wide.2 s⟩
theorem upon_round {next : Act → World → Prop} {r : Result Next} (h : o.upon P a next Q r) : o.uponIn (Fence.wide.inRound l) n P a next Q r := by
  unfold Oper.upon at h
  unfold Oper.uponIn
  split at h
  · exact h
  · exact h
  · exact h
  · exact ⟨fun e => (by cases e), callsIn_wide.2 h⟩
  · exact ⟨fun e => (by cases e), rows_round h⟩
  · exact h
  · exact h.elim
theorem wp_round {next : Act → World → Prop} (hd : ∀ c, o.op ≠ .defer c) (h : o.wp P a w next Q) : o.wpIn (Fence.wide.inRound l) n P a w next Q :=
  ⟨fun _ _ => trivial, by rw [Oper.semAt_eq _ _ _ hd]; exact upon_round h⟩
theorem wpOp_round {i : Nat} {K : Act → World → Prop} (hd : ∀ o, ops[i]? = some o → ∀ c, o.op ≠ .defer c) (hQ : ¬ LetsOut Q) (h : wpOp P ops Q i K a w) : wpOpIn (Fence.wide.inRound l) n P ops Q i K a w := by
  unfold wpOp at h
  unfold wpOpIn
  cases ho : ops[i]? with
  | none => simpa only [ho] using h
  | some o =>
    simp only [ho] at h ⊢
    split
    · rename_i hw
      rw [if_pos hw] at h
      exact wp_round (hd o ho) (h.resolve_right fun h => hQ h.2)
    · rename_i hw
      rw [if_neg hw] at h
      exact ⟨fun _ _ => trivial, h⟩
theorem wpAny_round {md : Region.Mode} (hd : ∀ (i : Nat) (o : Oper), ops[i]? = some o → ∀ c, o.op ≠ .defer c) (hQ : ¬ LetsOut Q) : ∀ (fuel : Nat) (listed : Array Bool) (a : Act) (w : World), wpAny P md ops Q fuel listed a w → wpAnyIn (Fence.wide.inRound l) n P md ops Q fuel listed a w
  | 0, _, _, _, h => h
  | fuel + 1, listed, a, w, h => ⟨h.1, fun i hi => by
    have h2 := wpOp_round (l := l) (n := n) (hd i) hQ (h.2 i hi)
    exact wpOpIn_mono (fun a w => wpAny_round hd hQ fuel _ a w) h2⟩
def noDefer (ops : Array Oper) : Bool := ops.toList.all fun o => match o.op with | .defer _ => false | _ => true
theorem noDefer_of (h : noDefer ops = true) : ∀ (i : Nat) (o : Oper), ops[i]? = some o → ∀ c, o.op ≠ .defer c := fun i o ho c e => by
  have := List.all_eq_true.1 h o (Array.mem_toList_iff.2 (Array.mem_of_getElem? ho))
  rw [e] at this
  cases this
/-- A region that draws its order, in a round. -/
theorem wp_region_round {id : Nat} {ls : List Oper} (S : World → Prop) (ts : List Nat) (hm : P.follows .mixedOrders = true)
    (hB : (planB P ls.toArray && (tagsOf P ls.toArray == ts)) = true) (hN : noDefer ls.toArray = true) (hQ : ¬ LetsOut Q) (hS : S w.drew) (h : wpTG P ls.toArray S (Q .normal) ls ts a w.drew) : (Code.region id ls.toArray true).wpIn (Fence.wide.inRound l) n P Q a w := by
  rw [Bool.and_eq_true, beq_iff_eq] at hB
  obtain ⟨hB, hts⟩ := hB
  refine wpIn_region_any hm (wpAny_round (noDefer_of hN) hQ _ _ _ _ ?_)
  have hF := fits_of_plan hB
  have full : rem ls.toArray (Array.replicate ls.toArray.size false) = List.range' 0 ls.length := by
    unfold rem
    rw [List.filter_eq_self.2]
    · rw [List.range_eq_range']; simp
    · intro i hi
      rw [List.mem_range] at hi
      simp only [Array.getD_eq_getD_getElem?, Array.getElem?_replicate]
      rw [if_pos hi]; rfl
  refine wpAny_of_text (S := S) hF _ _ a _ (by simp) (by rw [full]; simp) ?_ hS ?_
  · intro j o _ hl hs
    simp only [Array.size_replicate] at hs
    simp only [Array.getD_eq_getD_getElem?, Array.getElem?_replicate] at hl
    rw [if_pos hs] at hl
    cases hl
  · rw [full]
    refine wpT_of_list ls ts 0 (by simp) (fun j hj => ?_) a _ hS h
    rw [← hts]
    have hj' : j < ls.toArray.size := by simpa using hj
    simp [tagsOf, List.getD_eq_getElem?_getD, List.getElem?_range hj]
end
end Txt
namespace Mem
/-- All lies in blocks of cells. -/
def Cl (it : List It) (W : World) : Prop := ∀ (i : Nat) (x : It), it[i]? = some x → ∀ k, x.foot k → ∃ o : Obj, W.heap[k]? = some o ∧ o.isCells = true
/-- What a loop over an iterator turns of its own, none of this. -/
theorem M.turned {w W W' : World} {it : List It} (h : M (fun _ => False) w W it) (hc : Cl it W) {row : Option Nat} (hg : W.grownBy W' row) (hr : ∀ r, row = some r → w.heap.size ≤ r ∧ ∃ o : Obj, W.heap[r]? = some o ∧ o.isCells = false) : M (fun _ => False) w W' it := by
  have k : Keep (fun k => row = some k) W W' := (Keep.refl _ W).grown hg (fun k e _ => e)
  refine ⟨fun i x hi => x.stable W W' _ (h.all i x hi) k (fun j hj e => ?_), h.dis, fun i x hi j hj => ⟨(h.rng i x hi j hj).1, Nat.lt_of_lt_of_le (h.rng i x hi j hj).2 k.size⟩, h.keep.trans' k (fun _ _ h => h) (fun j hj e => by have := (hr j e).1; omega)⟩
  obtain ⟨o, ho, hco⟩ := hc i x hi j hj
  obtain ⟨_, o', ho', hco'⟩ := hr j e
  rw [ho] at ho'
  cases ho'
  rw [hco] at hco'
  cases hco'
end Mem
end Go.Proofs.Ythllhjdaknmlbaa
