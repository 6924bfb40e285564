/-
  The document's pen: put.
-/
import Derived.Test.YtpchpdnjgdpdgaaGreatDoorPx2
import Derived.Test.YtpchpdnjgdpdgaaGreatDoorDrw
set_option linter.unusedVariables false
set_option linter.unusedSimpArgs false
namespace Go.Proofs.YtpchpdnjgdpdgaaGreatDoor
open Go.RowKit
namespace Px
open Oct Ids Gn Hd Pn
open Mem (M It blk ids rows)
theorem M.id0 {F : Nat → Prop} {w0 w : World} {l : List It} (h : M F w0 w l) {b : Nat} (hb : w.heap.size = b) : M F w0 (w.alloc (.cells #[] 28)) (l ++ [ids (.slice (some ⟨b, 0, none⟩) 0 0) []]) := by
  subst hb
  refine h.add (x := ids (.slice (some ⟨w.heap.size, 0, none⟩) 0 0) []) ((Keep.refl _ _).alloc _) ?_ (fun k hk => by have e : w.heap.size = k := Option.some.inj hk; subst e; simp)
  exact Ids.Own.of (c := 0) rfl (fun x hx => by cases hx) (heap_alloc_new w _) (Nat.le_refl _) (by unfold maxLen; omega) rfl rfl
theorem own_sl {α : Type} {T : TypeId} {n : Nat} {enc : α → List Value} {w : World} {a : Option Addr} {q c : Nat} {L : List α} (h : St.Own T n enc w (.slice a q c) L) : St.At n enc w a q L := by
  obtain ⟨rfl, hat⟩ := h.slice
  exact hat
theorem own_rng {α : Type} {T : TypeId} {n : Nat} {enc : α → List Value} {w : World} {g q c i : Nat} {L : List α} {y : α} (h : St.Own T n enc w (.slice (some ⟨g, 0, none⟩) q c) L) (hy : L[i]? = some y) : w.rangeAt g (i * n) (enc y) := by
  have hlt := (List.getElem?_eq_some_iff.1 hy).1
  have hat := own_sl h
  rcases hat.lay with e | ⟨b, off, e, _, hr⟩
  · have := hat.len; omega
  · cases e
    have := hr i y hy
    rwa [Nat.zero_add] at this
theorem xids {w : World} {ra : Option Addr} {q rc : Nat} {L : List Wt} (h : St.Own 28 32 eI w (.slice ra q rc) L) : At w ra q (L.map fun x : Wt => x.id) := by
  obtain ⟨rfl, hat⟩ := h.slice
  exact at_ids hat
end Px
end Go.Proofs.YtpchpdnjgdpdgaaGreatDoor
