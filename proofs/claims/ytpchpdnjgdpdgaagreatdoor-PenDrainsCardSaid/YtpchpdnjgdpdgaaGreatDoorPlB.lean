/-
  Both pens, told by what is the same of them: Take.
-/
import Derived.Test.YtpchpdnjgdpdgaaGreatDoorPx5
import Derived.Test.YtpchpdnjgdpdgaaGreatDoorPlA
set_option linter.unusedVariables false
set_option linter.unusedSimpArgs false
namespace Go.Proofs.YtpchpdnjgdpdgaaGreatDoor
open Go.RowKit
namespace Pl
open Oct Ids Gn Hd Pn Px
open Mem (M It blk ids rows)
theorem less_nil (l m : List (List UInt8)) : (IdL.lessL l m).length = 0 ↔ ∀ y ∈ l, y ∈ m := by
  constructor
  · intro h y hy
    have h1 : IdL.lessL l m = [] := List.eq_nil_of_length_eq_zero h
    cases hd : decide (y ∈ m) with
    | true => exact of_decide_eq_true hd
    | false =>
      have : y ∈ IdL.lessL l m := (IdL.mem_lessL l m y).2 ⟨hy, of_decide_eq_false hd⟩
      rw [h1] at this
      cases this
  · intro h
    refine List.length_eq_zero_iff.2 (List.eq_nil_iff_forall_not_mem.2 fun y hy => ?_)
    have := (IdL.mem_lessL l m y).1 hy
    exact this.2 (h y this.1)
theorem rdy_is (kl : List (List UInt8)) (x : Wt) : rdy kl x = rdx kl x := by
  rw [Bool.eq_iff_iff]
  unfold rdy rdx
  rw [List.all_eq_true, beq_iff_eq, less_nil]
  constructor
  · intro h y hy
    exact (IdL.mem_setL kl y).1 (of_decide_eq_true (h y hy))
  · intro h y hy
    exact decide_eq_true ((IdL.mem_setL kl y).2 (h y hy))
/-- The first that may go. -/
def tix (kl : List (List UInt8)) (K : List Ky) : Option Nat := K.findIdx? fun k => (IdL.lessL k.1 kl).length == 0
theorem tix_some {kl : List (List UInt8)} {L : List Wt} {i : Nat} {x : Wt} (hx : L[i]? = some x) (hp : rdx kl x = true) (hb : ∀ (j : Nat) (y : Wt), j < i → L[j]? = some y → rdx kl y = false) : tix kl (L.map ky) = some i := by
  have hi := (List.getElem?_eq_some_iff.1 hx).1
  unfold tix
  rw [List.findIdx?_eq_some_iff_getElem]
  refine ⟨by rw [List.length_map]; exact hi, ?_, fun j hj => ?_⟩
  · rw [List.getElem_map, (List.getElem?_eq_some_iff.1 hx).2]
    exact hp
  · rw [List.getElem_map]
    have := hb j _ hj (List.getElem?_eq_getElem (by omega))
    unfold rdx at this
    show ¬ ((IdL.lessL (L[j]).l kl).length == 0) = true
    rw [this]
    decide
theorem tix_none {kl : List (List UInt8)} {L : List Wt} (hb : ∀ (j : Nat) (y : Wt), L[j]? = some y → rdx kl y = false) : tix kl (L.map ky) = none := by
  unfold tix
  rw [List.findIdx?_eq_none_iff]
  intro k hk
  obtain ⟨x, hx, rfl⟩ := List.mem_map.1 hk
  obtain ⟨j, hj⟩ := List.getElem?_of_mem hx
  exact hb j x hj
/-- What the program's Take comes to. -/
def PT (w : World) (b : Nat) (v : Value) (L : List Wt) (lost : Int) (kl : List (List UInt8)) (e : Ending) (w' : World) : Prop :=
  (∃ i x v', tix kl (L.map ky) = some i ∧ L[i]? = some x ∧ e = .returned (.tuple #[.agg (hv x).toArray, .int .i64 x.fr, .bool true]) ∧ PenTo w w' b v L v' (L.take i ++ L.drop (i + 1)) lost ∧ At w' x.a x.n x.l)
  ∨ (tix kl (L.map ky) = none ∧ e = .returned (.tuple #[.agg hz0, .int .i64 0, .bool false]) ∧ Keep (fun _ => False) w w')
theorem ptakeK (w : World) (b : Nat) (v : Value) (L : List Wt) (lost : Int) (h : PenAt w b v L lost) (hl : L.length ≤ 900) (ka : Option Addr) (kn kc : Nat) (kl : List (List UInt8)) (hk : At w ka kn kl) (hkm : kn ≤ 100000) :
    Calls Tryz.prog 35 #[.pointer (some ⟨b, 0, none⟩), .slice ka kn kc] w (PT w b v L lost kl) := by
  cases hf : L.findIdx? (rdy kl) with
  | none =>
    rw [List.findIdx?_eq_none_iff] at hf
    refine (ptake_none w b v L lost h hl ka kn kc kl hk hkm (by rw [List.any_eq_false]; intro x hx; rw [hf x hx]; decide)).mono fun e w' ⟨he, k⟩ => .inr ⟨tix_none fun j y hy => ?_, he, k⟩
    rw [← rdy_is]
    exact hf y (List.mem_of_getElem? hy)
  | some i =>
    rw [List.findIdx?_eq_some_iff_getElem] at hf
    obtain ⟨hi, hp, hb⟩ := hf
    have hx : L[i]? = some L[i] := List.getElem?_eq_getElem hi
    have hb' : ∀ (j : Nat) (y : Wt), j < i → L[j]? = some y → rdy kl y = false := fun j y hj hy => by
      have := hb j hj
      rw [(List.getElem?_eq_some_iff.1 hy).2] at this
      simpa using this
    refine (ptake_some w b v L lost h hl ka kn kc kl hk hkm i L[i] hx hp hb').mono fun e w' ⟨he, v', ht, ha⟩ => .inl ⟨i, L[i], v', tix_some hx (by rw [← rdy_is]; exact hp) (fun j y hj hy => by rw [← rdy_is]; exact hb' j y hj hy), hx, he, ht, ha⟩
end Pl
end Go.Proofs.YtpchpdnjgdpdgaaGreatDoor
