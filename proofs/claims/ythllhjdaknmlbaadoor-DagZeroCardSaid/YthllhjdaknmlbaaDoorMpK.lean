/-
  Keys of maps: ids.
-/
import Derived.Test.YthllhjdaknmlbaaDoorMp2
import Derived.Test.YthllhjdaknmlbaaDoorGId
set_option linter.unusedVariables false
set_option linter.unusedSimpArgs false
namespace Go.Proofs.YthllhjdaknmlbaaDoor
open Go.RowKit
namespace Mp
open Oct Ids
theorem id_chk (k : List UInt8) (hk : k.length = 32) (b : Bool) (w : World) : (Instr.checkKey b 10000 24 (idv k)).run Tryd.prog w = .ok () w := by
  unfold idv
  rw [show (10000 : Nat) = 9998 + 1 + 1 from rfl, Instr.checkKey]
  simp only [Sem.run_bind, run_underlying Tryd.underlying24, Result.andThen_ok, Std.Legacy.Range.forIn_eq_forIn_range', Std.Legacy.Range.size, Nat.sub_zero, Nat.add_one_sub_one, Nat.div_one]
  have hl : ∀ i ∈ List.range' 0 32 1, i < 32 := fun i hi => by simpa using (List.mem_range'_1.1 hi).2
  generalize List.range' 0 32 1 = l at hl ⊢
  induction l with
  | nil => simp
  | cons i l ih =>
    have hi : i < 32 := hl i (by simp)
    have px : (part 5 (k.map bv).toArray (i * 1)).run Tryd.prog w = .ok (bv (k.getD i 0)) w := by
      simp [part, isAgg, run_underlying Tryd.underlying5, List.getD, List.getElem?_eq_getElem (show i < k.length by omega)]
    have pc : (Instr.checkKey b (9998 + 1) 5 (bv (k.getD i 0))).run Tryd.prog w = .ok () w := by
      rw [Instr.checkKey]
      simp [run_underlying Tryd.underlying5, bv]
    simp only [List.forIn_cons, Sem.run_bind, sz8 w, px, pc, Result.andThen_ok, Sem.run_pure]
    exact ih fun j hj => hl j (by simp [hj])
theorem bits_id (k : List UInt8) : Instr.sameBits 10000 (idv k) (idv k) = true := by
  unfold idv
  have h : ∀ n, Instr.sameBits (n + 1) (.agg (k.map bv).toArray) (.agg (k.map bv).toArray) = true := by
    intro n
    unfold Instr.sameBits
    rw [Bool.and_eq_true]
    refine ⟨by simp, ?_⟩
    rw [List.all_eq_true]
    rintro ⟨x, y⟩ hxy
    have : x = y ∧ x ∈ k.map bv := by
      obtain ⟨i, hi⟩ := List.getElem?_of_mem hxy
      rw [List.getElem?_zip_eq_some] at hi
      obtain ⟨h1, h2⟩ := hi
      rw [h1] at h2
      exact ⟨Option.some.inj h2, List.mem_of_getElem? h1⟩
    obtain ⟨rfl, hx⟩ := this
    obtain ⟨u, _, rfl⟩ := List.mem_map.1 hx
    simp [bv, Instr.sameBits]
  exact h 9999
theorem idKey : Key Tryd.prog 24 (fun k : List UInt8 => k.length = 32) idv := by
  refine ⟨id_chk, ⟨_, Tryd.underlying24, .inr ⟨fun _ _ => rfl, fun x y hx hy w => ?_⟩⟩, fun k _ => bits_id k⟩
  have h := run_equalIn_bytes (P := Tryd.prog) w 9998 24 5 32 Tryd.underlying24 Tryd.underlying5 sz8 x y hx hy
  unfold idv Op.equal Op.maxDepth
  have e : decide (x = y) = (x == y) := by rw [Bool.eq_iff_iff]; simp
  rw [bv_cell, h, e]
end Mp
end Go.Proofs.YthllhjdaknmlbaaDoor
