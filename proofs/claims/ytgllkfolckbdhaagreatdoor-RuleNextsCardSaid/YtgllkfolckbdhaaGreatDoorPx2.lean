/-
  The document's pen: out.
-/
import Derived.Test.YtgllkfolckbdhaaGreatDoorPx1
set_option linter.unusedVariables false
set_option linter.unusedSimpArgs false
namespace Go.Proofs.YtgllkfolckbdhaaGreatDoor
open Go.RowKit
namespace St
theorem At.tailIf {α : Type} {n : Nat} {enc : α → List Value} {w : World} {els : List α} {b k : Nat} (h : At n enc w (some ⟨b, 0, none⟩) k els) (j : Nat) (hj : j ≤ k) (c : Nat) (hkc : k ≤ c) : At n enc w (if c = j then some ⟨b, 0, none⟩ else some ⟨b, j * n, none⟩) (k - j) (els.drop j) := by
  by_cases e : c = j
  · rw [if_pos e, show k - j = 0 by omega, List.drop_eq_nil_of_le (by rw [h.len]; omega)]
    exact h.empty
  · rw [if_neg e]
    have := h.tail j hj
    rwa [Nat.zero_add] at this
end St
namespace Mem
theorem M.row0 {F : Nat → Prop} {w0 w : World} {l : List It} (h : M F w0 w l) {α : Type} {T : TypeId} {n : Nat} {enc : α → List Value} (hE : St.Enc n enc) {b : Nat} (hb : w.heap.size = b) : M F w0 (w.alloc (.cells #[] T)) (l ++ [rows T n enc (.slice (some ⟨b, 0, none⟩) 0 0) ([] : List α)]) := by
  subst hb
  exact h.add (x := rows T n enc (.slice (some ⟨w.heap.size, 0, none⟩) 0 0) []) ((Keep.refl _ _).alloc _) (St.own0 hE w) (fun k hk => by have e : w.heap.size = k := Option.some.inj hk; subst e; simp)
end Mem
namespace Px
open Oct Ids Gn Hd Pn
open Mem (M It blk ids rows)
/-- A row of one's own that has something. -/
theorem own_some {α : Type} {T : TypeId} {n : Nat} {enc : α → List Value} {w : World} {v : Value} {L : List α} (h : St.Own T n enc w v L) (h0 : 0 < L.length) : ∃ g c, v = .slice (some ⟨g, 0, none⟩) L.length c ∧ L.length ≤ c ∧ c ≤ maxLen ∧ St.At n enc w (some ⟨g, 0, none⟩) L.length L := by
  obtain ⟨_, hn | ⟨g, cap, cur, rfl, _, _, hlc, hcm, _⟩⟩ := h.own
  · have := hn.2; omega
  · obtain ⟨a, c, e, hat⟩ := h.any
    cases e
    exact ⟨g, cap, rfl, hlc, hcm, hat⟩
theorem own_cut {α : Type} {T : TypeId} {n : Nat} {enc : α → List Value} {w : World} {g q c : Nat} {L : List α} (h : St.Own T n enc w (.slice (some ⟨g, 0, none⟩) q c) L) (i : Nat) (hi : i ≤ q) : St.At n enc w (some ⟨g, 0, none⟩) i (L.take i) := by
  obtain ⟨rfl, hat⟩ := h.slice
  exact hat.cut i hi
theorem own_tl {α : Type} {T : TypeId} {n : Nat} {enc : α → List Value} {w : World} {g q c : Nat} {L : List α} (h : St.Own T n enc w (.slice (some ⟨g, 0, none⟩) q c) L) (p : Nat) (hp : p ≤ q) (hqc : q ≤ c) : St.At n enc w (if c = p then some ⟨g, 0, none⟩ else some ⟨g, p * n, none⟩) (q - p) (L.drop p) := by
  obtain ⟨rfl, hat⟩ := h.slice
  exact hat.tailIf p hp c hqc
theorem own_tl1 {α : Type} {T : TypeId} {enc : α → List Value} {w : World} {g q c : Nat} {L : List α} (h : St.Own T 1 enc w (.slice (some ⟨g, 0, none⟩) q c) L) (p : Nat) (hp : p ≤ q) (hqc : q ≤ c) : St.At 1 enc w (if c = p then some ⟨g, 0, none⟩ else some ⟨g, p, none⟩) (q - p) (L.drop p) := by
  have := own_tl h p hp hqc
  rwa [Nat.mul_one] at this
end Px
end Go.Proofs.YtgllkfolckbdhaaGreatDoor
