/-
  Maps as lists of keys with what is meant: look-up and store (plain).
-/
import Derived.Test.YtgllkfolckbdhaaMp2
set_option linter.unusedVariables false
set_option linter.unusedSimpArgs false
namespace Go.Proofs.Ytgllkfolckbdhaa
open Go.RowKit
set_option linter.unusedSectionVars false
namespace Sq
open Mp
section
variable {α β : Type} [DecidableEq α]
def fget (L : List (α × β)) (k : α) : Option β := (L.find? fun p => decide (p.1 = k)).map (·.2)
def fput (L : List (α × β)) (k : α) (v : β) : List (α × β) := if k ∈ L.map (·.1) then L.map (fun p => if p.1 = k then (k, v) else p) else L ++ [(k, v)]
def enc2 (f : β → Value) (L : List (α × β)) : List (α × Value) := L.map fun p => (p.1, f p.2)
theorem keys_enc2 (f : β → Value) (L : List (α × β)) : (enc2 f L).map (·.1) = L.map (·.1) := by unfold enc2; rw [List.map_map]; rfl
theorem fnd_enc2 (f : β → Value) (k : α) : ∀ (L : List (α × β)) (j : Nat), (fnd k (enc2 f L) j).map (·.2) = (fget L k).map f
  | [], _ => rfl
  | p :: L, j => by
    have ih := fnd_enc2 f k L (j + 1)
    unfold enc2 fget at ih ⊢
    rw [List.map_cons, fnd, List.find?_cons]
    by_cases e : k = p.1
    · rw [if_pos e, decide_eq_true e.symm]; rfl
    · rw [if_neg e, decide_eq_false (fun h => e h.symm)]; exact ih
theorem get_enc2 (f : β → Value) (L : List (α × β)) (k : α) : get (enc2 f L) k = (fget L k).map f := fnd_enc2 f k L 0
theorem fget_none {L : List (α × β)} {k : α} : fget L k = none ↔ k ∉ L.map (·.1) := by
  unfold fget
  rw [Option.map_eq_none_iff, List.find?_eq_none]
  constructor
  · intro h hk
    obtain ⟨p, hp, e⟩ := List.mem_map.1 hk
    exact h p hp (decide_eq_true e)
  · intro h p hp e
    exact h (List.mem_map.2 ⟨p, hp, of_decide_eq_true e⟩)
theorem fget_mem {L : List (α × β)} {k : α} {v : β} (h : fget L k = some v) : (k, v) ∈ L := by
  unfold fget at h
  obtain ⟨p, hp, e⟩ := Option.map_eq_some_iff.1 h
  have h1 := List.find?_some hp
  have h2 := List.mem_of_find?_eq_some hp
  have h3 : p.1 = k := of_decide_eq_true h1
  rw [← h3, ← e]
  exact h2
theorem fget_of {L : List (α × β)} (hn : (L.map (·.1)).Nodup) {k : α} {v : β} (h : (k, v) ∈ L) : fget L k = some v := by
  induction L with
  | nil => cases h
  | cons p L ih =>
    rw [List.map_cons, List.nodup_cons] at hn
    unfold fget
    rw [List.find?_cons]
    rcases List.mem_cons.1 h with rfl | h
    · rw [decide_eq_true (rfl : k = k)]; rfl
    · have : p.1 ≠ k := fun e => hn.1 (e ▸ List.mem_map_of_mem (f := (·.1)) h)
      rw [decide_eq_false this]
      exact ih hn.2 h
theorem set_enc2 (f : β → Value) (k : α) (v : β) : ∀ (L : List (α × β)) (j i : Nat) (u : Value), (L.map (·.1)).Nodup → fnd k (enc2 f L) j = some (i, u) → j ≤ i ∧ (enc2 f L).set (i - j) (k, f v) = enc2 f (L.map fun p => if p.1 = k then (k, v) else p)
  | [], j, i, u, _, h => by cases h
  | p :: L, j, i, u, hn, h => by
    rw [List.map_cons, List.nodup_cons] at hn
    have h' := h
    unfold enc2 at h' ⊢
    rw [List.map_cons, fnd] at h'
    by_cases e : k = p.1
    · rw [if_pos e] at h'
      simp only [Option.some.injEq, Prod.mk.injEq] at h'
      obtain ⟨rfl, _⟩ := h'
      refine ⟨Nat.le_refl _, ?_⟩
      have hL : L.map (fun p => if p.1 = k then (k, v) else p) = L := by
        conv => rhs; rw [← List.map_id L]
        refine List.map_congr_left fun q hq => ?_
        rw [if_neg (fun e2 => hn.1 (by rw [← e, ← e2]; exact List.mem_map_of_mem (f := (·.1)) hq))]
        rfl
      rw [Nat.sub_self, List.map_cons, List.set_cons_zero, List.map_cons, hL, if_pos e.symm, List.map_cons]
    · rw [if_neg e] at h'
      obtain ⟨h1, h2⟩ := set_enc2 f k v L (j + 1) i u hn.2 h'
      refine ⟨by omega, ?_⟩
      unfold enc2 at h2
      rw [show i - j = (i - (j + 1)) + 1 by omega, List.map_cons, List.set_cons_succ, h2, List.map_cons, if_neg (fun h => e h.symm), List.map_cons]
theorem put_enc2 (f : β → Value) (L : List (α × β)) (hn : (L.map (·.1)).Nodup) (k : α) (v : β) : put (enc2 f L) k (f v) = enc2 f (fput L k v) := by
  unfold put fput
  cases h : fnd k (enc2 f L) 0 with
  | none =>
    rw [if_neg (by rw [← keys_enc2 f]; exact fnd_none.1 h)]
    unfold enc2
    rw [List.map_append]
    rfl
  | some q =>
    obtain ⟨i, u⟩ := q
    have hk : k ∈ L.map (·.1) := by
      refine Classical.byContradiction fun hc => ?_
      rw [← keys_enc2 f] at hc
      rw [fnd_none.2 hc] at h
      cases h
    rw [if_pos hk]
    exact (set_enc2 f k v L 0 i u hn h).2
theorem keys_fput (L : List (α × β)) (k : α) (v : β) : (fput L k v).map (·.1) = if k ∈ L.map (·.1) then L.map (·.1) else L.map (·.1) ++ [k] := by
  unfold fput
  split
  · rw [List.map_map]
    refine List.map_congr_left fun p _ => ?_
    by_cases e : p.1 = k
    · simp [e]
    · simp [e]
  · rw [List.map_append]; rfl
theorem nodup_fput {L : List (α × β)} (hn : (L.map (·.1)).Nodup) (k : α) (v : β) : ((fput L k v).map (·.1)).Nodup := by
  rw [keys_fput]
  split
  · exact hn
  · rename_i h
    rw [List.nodup_append]
    exact ⟨hn, by simp, fun a ha b hb e => h (by rw [← List.mem_singleton.1 hb, ← e]; exact ha)⟩
theorem fget_fput (L : List (α × β)) (hn : (L.map (·.1)).Nodup) (k : α) (v : β) (x : α) : fget (fput L k v) x = if x = k then some v else fget L x := by
  by_cases hx : x = k
  · subst hx
    rw [if_pos rfl]
    refine fget_of (nodup_fput hn x v) ?_
    unfold fput
    split
    · rename_i h
      obtain ⟨p, hp, e⟩ := List.mem_map.1 h
      exact List.mem_map.2 ⟨p, hp, by rw [if_pos e]⟩
    · simp
  · rw [if_neg hx]
    cases h : fget L x with
    | none =>
      rw [fget_none] at h ⊢
      rw [keys_fput]
      split
      · exact h
      · intro hc
        rcases List.mem_append.1 hc with hc | hc
        · exact h hc
        · exact hx (List.mem_singleton.1 hc)
    | some u =>
      have hm := fget_mem h
      refine fget_of (nodup_fput hn k v) ?_
      unfold fput
      split
      · exact List.mem_map.2 ⟨(x, u), hm, by rw [if_neg hx]⟩
      · exact List.mem_append_left _ hm
end
end Sq
end Go.Proofs.Ytgllkfolckbdhaa
