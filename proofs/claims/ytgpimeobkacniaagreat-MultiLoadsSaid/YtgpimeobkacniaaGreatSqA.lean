/-
  petrellaw25.awake.
-/
import Derived.Test.YtgpimeobkacniaaGreatSq9
set_option linter.unusedVariables false
set_option linter.unusedSimpArgs false
namespace Go.Proofs.YtgpimeobkacniaaGreat
open Go.RowKit
namespace Sq
open Oct Ids Mp
open Mem (M It blk ids rows)
theorem widen {F S : Nat → Prop} {w w1 w' : World} {l : List It} (h : M S w1 w' l) (k : Keep F w w1) (hs : ∀ j, S j → w.heap.size ≤ j) : M F w w' l :=
  ⟨h.all, h.dis, fun i x hi j hj => ⟨.inl (by
    rcases (h.rng i x hi j hj).1 with h1 | h1
    · have := k.size; omega
    · exact hs _ h1), (h.rng i x hi j hj).2⟩, k.trans' h.keep (fun _ _ h => h) (fun j hj e => by have := hs j e; omega)⟩
def u1 : List UInt8 := 1 :: List.replicate 31 0
def u2 : List UInt8 := 2 :: List.replicate 31 0
def x1 : Nd := ⟨1, Zi, rfl, ⟨#[97]⟩⟩
def x2 : Nd := ⟨2, u1, rfl, ⟨#[98]⟩⟩
def N1 : Nds := [(u1, x1)]
def N2 : Nds := [(u1, x1), (u2, x2)]
def B1 (v : Value) : Bhs := [(Zi, (v, [u1]))]
def B2 (v v' : Value) : Bhs := [(Zi, (v, [u1])), (u1, (v', [u2]))]
theorem rows_Z (v v' : Value) : rowsB (B2 v v') Zi = [u1] := rfl
theorem rows_1 (v v' : Value) : rowsB (B2 v v') u1 = [u2] := rfl
theorem rows_2 (v v' : Value) : rowsB (B2 v v') u2 = [] := rfl
theorem dep_2 (v v' : Value) : Dep (rowsB (B2 v v')) 2 Zi := by
  intro x hx
  rw [rows_Z] at hx
  obtain rfl := List.mem_singleton.1 hx
  intro y hy
  rw [rows_1] at hy
  obtain rfl := List.mem_singleton.1 hy
  exact rows_2 v v'
theorem pre_2 (v v' : Value) : pre (rowsB (B2 v v')) 3 Zi = [u1, u2] := by
  simp only [pre, rows_Z, rows_1, rows_2, List.flatMap_cons, List.flatMap_nil, List.append_nil]
theorem hB2 (v v' : Value) : ∀ p ∈ B2 v v', p.2.2.length ≤ 1000 := by
  intro p hp
  unfold B2 at hp
  simp only [List.mem_cons, List.not_mem_nil, or_false] at hp
  rcases hp with rfl | rfl <;> simp
theorem lst_2 : lst N2 [] [u1, u2] = [⟨#[97]⟩, ⟨#[98]⟩] := by rfl
theorem bu1 : Tryz.prog.built 38 [(0, .int .u8 1)] = some (u1.map bv).toArray := by kernel_rfl
theorem bu2 : Tryz.prog.built 38 [(0, .int .u8 2)] = some (u2.map bv).toArray := by kernel_rfl
end Sq
end Go.Proofs.YtgpimeobkacniaaGreat
