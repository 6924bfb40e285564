/-
  Rows of structs of one's own: cut, their tails cleared.
-/
import Derived.Test.YtgllkfolckbdhaaRows5
set_option linter.unusedVariables false
set_option linter.unusedSimpArgs false
namespace Go.Proofs.Ytgllkfolckbdhaa
open Go.RowKit
namespace St
open Oct
section
variable {α : Type} {T t : TypeId} {n : Nat} {enc : α → List Value} {w : World} {Z : Array Value}
theorem zcells_len (Z : Array Value) (m : Nat) : (Builtin.zeroCells Z m).toList.length = m * Z.size := by
  unfold Builtin.zeroCells
  simp
theorem zcells_one (hz : 0 < Z.size) (h1 : Z.all (·.oneCell') = true) (m : Nat) : ∀ v ∈ (Builtin.zeroCells Z m).toList, v.oneCell' = true := by
  intro v hv
  unfold Builtin.zeroCells at hv
  simp only [Array.toList_map, List.mem_map] at hv
  obtain ⟨i, _, rfl⟩ := hv
  have h2 : i % Z.size < Z.size := Nat.mod_lt _ hz
  rw [getElem!_pos Z _ h2]
  exact (Array.all_eq_true_iff_forall_mem.1 h1) _ (Array.getElem_mem h2)
theorem Own.cut {g q c : Nat} {els : List α} (hE : Enc n enc) (h : Own T n enc w (.slice (some ⟨g, 0, none⟩) q c) els) {k : Nat} (hk : k ≤ q) : Own T n enc w (.slice (some ⟨g, 0, none⟩) k c) (els.take k) := by
  obtain ⟨hl, cur, hg, hn, hc, hsz, ht⟩ := h.block
  have hk' : k = (els.take k).length := by rw [List.length_take]; omega
  have e : cur.toList.take (k * n) = (els.take k).flatMap enc := by
    rw [← flat_take hE els k, ← ht, List.take_take, Nat.min_eq_left (Nat.mul_le_mul_right n hk)]
  have := Own.of (T := T) (els := els.take k) (cap := c) hE hg (by rw [← hk']; omega) hc hsz (by rw [← hk']; exact e)
  rwa [← hk'] at this
/-- 'clear(s[k:])' in a row of one's own. -/
theorem run_clear (hE : Enc n enc) (hT : Ty T n Z) (hZ : Z.size = n) (hn0 : 0 < n) (hZ1 : Z.all (·.oneCell') = true) (hsl : Try.prog.underlying t = some (.slice T)) {g q c k m c' : Nat} {els : List α} (hown : Own T n enc w (.slice (some ⟨g, 0, none⟩) q c) els) (hk : k + m = q) :
    ∃ w', (∀ ty, (Builtin.clear_ #[t] ty #[.slice (some ⟨g, k * n, none⟩) m c']).run Try.prog w = .ok (.tuple #[]) w') ∧ Own T n enc w' (.slice (some ⟨g, 0, none⟩) k c) (els.take k) ∧ Keep (fun b => b = g) w w' := by
  obtain ⟨hn, cur, hg, hnc, hc, hsz, ht⟩ := hown.block
  cases m with
  | zero => exact ⟨w, fun ty => by simp [Builtin.clear_, run_underlying hsl], hown.cut hE (by omega), Keep.refl _ _⟩
  | succ m =>
    have hcl : q * n ≤ cur.size := by rw [hsz]; exact Nat.mul_le_mul_right _ hnc
    have hzl : (Builtin.zeroCells Z (m + 1)).toList.length = (m + 1) * n := by rw [zcells_len, hZ]
    have hkm : k * n + (m + 1) * n = q * n := by rw [← Nat.add_mul, hk]
    have hst := run_storeCells_at Try.prog g (k * n) T (Builtin.zeroCells Z (m + 1)).toList 0 cur w hg (by rw [hzl]; omega) (zcells_one (by omega) hZ1 _)
    simp only [Nat.add_zero] at hst
    have hz := hT.zero w
    have hrun : ∀ ty, (Builtin.clear_ #[t] ty #[.slice (some ⟨g, k * n, none⟩) (m + 1) c']).run Try.prog w = .ok (.tuple #[]) (w.setRow g (cur.toList.take (k * n) ++ (Builtin.zeroCells Z (m + 1)).toList ++ cur.toList.drop (k * n + (Builtin.zeroCells Z (m + 1)).toList.length)).toArray) := fun ty => by
      simp [Builtin.clear_, run_underlying hsl, hz, Value.cells, hst]
    refine ⟨_, hrun, ?_, (Keep.refl _ _).setRow g _ (fun _ => rfl)⟩
    have h2 := hown.cut hE (k := k) (by omega)
    obtain ⟨hkl, cur', hg', _, _, _, ht'⟩ := h2.block
    rw [hg] at hg'
    cases hg'
    have := Own.of (T := T) (els := els.take k) (cap := c) (cur := (cur.toList.take (k * n) ++ (Builtin.zeroCells Z (m + 1)).toList ++ cur.toList.drop (k * n + (Builtin.zeroCells Z (m + 1)).toList.length)).toArray) hE (setRow_heap w g _ _ _ _ hg) (by rw [← hkl]; omega) hc ?_ ?_
    · rwa [← hkl] at this
    · simp only [List.size_toArray, List.length_append, List.length_take, List.length_drop, Array.length_toList, hzl]
      omega
    · rw [← hkl, List.toList_toArray, List.append_assoc, List.take_append, List.take_take, Nat.min_self, List.length_take, Array.length_toList, Nat.min_eq_left (by omega), Nat.sub_self, List.take_zero, List.append_nil, ht']
end
end St
end Go.Proofs.Ytgllkfolckbdhaa
