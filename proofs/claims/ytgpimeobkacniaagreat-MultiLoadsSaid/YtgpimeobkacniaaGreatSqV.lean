/-
  Plain law: what holds of nodes and of those behind each, whatever is inserted.
-/
import Derived.Test.YtgpimeobkacniaaGreatSqT
set_option linter.unusedVariables false
set_option linter.unusedSimpArgs false
namespace Go.Proofs.YtgpimeobkacniaaGreat
open Go.RowKit
namespace Sq
open Mp
theorem ah_irr (x : Int) (a : Wd) : ah x a x a = false := by
  unfold ah
  rw [decide_eq_false (by omega : ¬ x < x), decide_eq_false (IdL.cmpL_irr a)]
  simp
theorem ah_iff (x : Int) (a : Wd) (y : Int) (b : Wd) : ah x a y b = true ↔ x < y ∨ (x = y ∧ IdL.cmpL a b < 0) := by
  unfold ah
  simp
theorem ah_tri (x : Int) (a : Wd) (y : Int) (b : Wd) (h : a ≠ b) (hf : ah x a y b = false) : ah y b x a = true := by
  rw [ah_iff]
  have h1 : ¬ (x < y ∨ (x = y ∧ IdL.cmpL a b < 0)) := fun hc => by rw [(ah_iff x a y b).2 hc] at hf; cases hf
  rcases IdL.cmpL_tri a b with h2 | h2 | h2
  · by_cases e : x = y
    · exact absurd (.inr ⟨e, h2⟩) h1
    · have : ¬ x < y := fun h => h1 (.inl h)
      exact .inl (by omega)
  · exact absurd h2 h
  · have : ¬ x < y := fun h => h1 (.inl h)
    by_cases e : x = y
    · exact .inr ⟨e.symm, h2⟩
    · exact .inl (by omega)
theorem ah_trans {x y z : Int} {a b c : Wd} (h : ah x a y b = true) (h' : ah y b z c = true) : ah x a z c = true := by
  rw [ah_iff] at h h' ⊢
  rcases h with h | ⟨h, h1⟩ <;> rcases h' with h' | ⟨h', h2⟩
  · exact .inl (by omega)
  · exact .inl (by omega)
  · exact .inl (by omega)
  · exact .inr ⟨by omega, IdL.cmpL_trans _ _ _ h1 h2⟩
theorem ah_asymm {x y : Int} {a b : Wd} (h : ah x a y b = true) : ah y b x a = false := by
  cases h' : ah y b x a with
  | false => rfl
  | true => have := ah_trans h h'; rw [ah_irr] at this; cases this
theorem take_tw {p : Wd → Bool} : ∀ (l : List Wd), l.take (l.takeWhile p).length = l.takeWhile p ∧ l.drop (l.takeWhile p).length = l.dropWhile p
  | [] => ⟨rfl, rfl⟩
  | a :: l => by
    obtain ⟨h1, h2⟩ := take_tw (p := p) l
    cases h : p a with
    | true => simp [h, h1, h2]
    | false => simp [h]
theorem insN_eq (N : Nds) (h : Int) (u : Wd) (l : List Wd) : insN N h u l = l.takeWhile (aheadOf N h u) ++ [u] ++ l.dropWhile (aheadOf N h u) := by
  obtain ⟨h1, h2⟩ := take_tw (p := aheadOf N h u) l
  unfold insN cutN
  rw [h1, h2]
theorem mem_tdw {p : Wd → Bool} {l : List Wd} {y : Wd} : y ∈ l ↔ y ∈ l.takeWhile p ∨ y ∈ l.dropWhile p := by
  rw [← List.mem_append, List.takeWhile_append_dropWhile]
theorem mem_insN (N : Nds) (h : Int) (u : Wd) (l : List Wd) (y : Wd) : y ∈ insN N h u l ↔ y = u ∨ y ∈ l := by
  rw [insN_eq, mem_tdw (p := aheadOf N h u) (l := l)]
  simp only [List.mem_append, List.mem_singleton]
  constructor
  · rintro ((h | h) | h)
    · exact .inr (.inl h)
    · exact .inl h
    · exact .inr (.inr h)
  · rintro (h | h | h)
    · exact .inl (.inr h)
    · exact .inl (.inl h)
    · exact .inr h
theorem tw_all {p : Wd → Bool} : ∀ (l : List Wd), ∀ y ∈ l.takeWhile p, p y = true
  | [], y, hy => by cases hy
  | a :: l, y, hy => by
    cases h : p a with
    | false => simp [h] at hy
    | true =>
      simp only [List.takeWhile_cons, h, if_true] at hy
      rcases List.mem_cons.1 hy with rfl | hy
      · exact h
      · exact tw_all l y hy
theorem chk_ok {u : Wd} {x : Nd} (h : chk u x = 0) : x.v.size ≤ 16 ∧ 1 ≤ x.h ∧ x.h ≤ 1073741824 ∧ u ≠ Zi := by
  unfold chk at h
  split at h
  · cases h
  · split at h
    · cases h
    · rename_i h1 h2
      exact ⟨by omega, by omega, by omega, fun e => h2 (.inr (.inr e))⟩
def upN (N : Nds) (y : Wd) : Wd := ((fget N y).map (·.r)).getD Zi
theorem rowsB_fput {B : Bhs} (hk : (B.map (·.1)).Nodup) (r0 : Wd) (v : Value) (l : List Wd) (r : Wd) : rowsB (fput B r0 (v, l)) r = if r = r0 then l else rowsB B r := by
  unfold rowsB rowB
  rw [fget_fput B hk]
  split <;> rfl
theorem hN_fput {N : Nds} (hk : (N.map (·.1)).Nodup) (u : Wd) (x : Nd) (y : Wd) : hN (fput N u x) y = if y = u then x.h else hN N y := by
  unfold hN
  rw [fget_fput N hk]
  split <;> rfl
theorem fput_new {N : Nds} {u : Wd} (x : Nd) (h : u ∉ N.map (·.1)) : fput N u x = N ++ [(u, x)] := if_neg h
/-- All that is in order. -/
def ordr (N : Nds) (B : Bhs) : List Wd := pre (rowsB B) (N.length + 1) Zi
end Sq
end Go.Proofs.YtgpimeobkacniaaGreat
