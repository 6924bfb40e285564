/-
  Both pens, told by what is the same of them: Put.
-/
import Derived.Test.YtpchpdnjgdpdgaaGreatDoorPx3
import Derived.Test.YtpchpdnjgdpdgaaGreatDoorPx5
set_option linter.unusedVariables false
set_option linter.unusedSimpArgs false
namespace Go.Proofs.YtpchpdnjgdpdgaaGreatDoor
open Go.RowKit
namespace Pl
open Oct Ids Gn Hd Pn Px
open Mem (M It blk ids rows)
/-- What is the same of two that wait. -/
abbrev Ky := List (List UInt8) × Int × ByteArray × Int × Int × Int × List UInt8 × List UInt8 × Int
def ky (x : Wt) : Ky := (x.l, x.G, x.T, x.A, x.Q, x.Z, x.m, x.id, x.fr)
def kid (k : Ky) : List UInt8 := k.2.2.2.2.2.2.2.1
theorem kid_ky (L : List Wt) : (L.map ky).map kid = L.map fun x : Wt => x.id := by rw [List.map_map]; rfl
/-- What Put answers, and leaves. -/
structure Res where
  id : List UInt8
  g : Bool
  e : Int
  K : List Ky
  lost : Int
def pst (K : List Ky) (lost : Int) (n : Nat) (l : List (List UInt8)) (G : Int) (T : ByteArray) (A Q Z : Int) (m : List UInt8) (fr : Int) : Res :=
  if ck n l G T A Q Z = 0 then
    if Hd.iv n l G T A Q Z m ∈ K.map kid then ⟨Z32, false, 0, K, lost⟩
    else if K.length < 8 then ⟨Z32, false, 0, K ++ [(l, G, T, A, Q, Z, m, Hd.iv n l G T A Q Z m, fr)], lost⟩
    else ⟨(((K ++ [(l, G, T, A, Q, Z, m, Hd.iv n l G T A Q Z m, fr)])[0]?).map kid).getD Z32, true, 0, (K ++ [(l, G, T, A, Q, Z, m, Hd.iv n l G T A Q Z m, fr)]).drop 1, min (lost + 1) 1000⟩
  else ⟨Z32, false, ck n l G T A Q Z, K, lost⟩
theorem any_mem (L : List Wt) (u : List UInt8) : L.any (fun x => x.id == u) = decide (u ∈ L.map fun x : Wt => x.id) := by
  rw [Bool.eq_iff_iff, List.any_eq_true, decide_eq_true_iff, List.mem_map]
  constructor
  · rintro ⟨x, hx, h⟩; exact ⟨x, hx, by simpa using h⟩
  · rintro ⟨x, hx, h⟩; exact ⟨x, hx, by simpa using h⟩
section
variable (w : World) (a : Option Addr) (n c : Nat) (l : List (List UInt8)) (G : Int) (T : ByteArray) (A Q Z : Int) (m : List UInt8) (fr : Int) (h : At w a n l) (hm : m.length = 32) (hn : n ≤ 1000000) (hT : T.size ≤ maxLen)
include h hm hn hT
theorem pputK (hF : Sha.TabF w) (hK : Sha.TabK w) (b : Nat) (v : Value) (L : List Wt) (lost : Int) (hp : PenAt w b v L lost) (hl : L.length ≤ 8) (hlost : 0 ≤ lost ∧ lost ≤ 1000) :
    Calls Tryz.prog 9 #[.pointer (some ⟨b, 0, none⟩), .agg (hd (.slice a n c) G T A Q Z m).toArray, .int .i64 fr] w fun e w' => e = .returned (.tuple #[idv (pst (L.map ky) lost n l G T A Q Z m fr).id, .bool (pst (L.map ky) lost n l G T A Q Z m fr).g, .int .i64 (pst (L.map ky) lost n l G T A Q Z m fr).e]) ∧ ∃ v' L', PenTo w w' b v L v' L' (pst (L.map ky) lost n l G T A Q Z m fr).lost ∧ L'.map ky = (pst (L.map ky) lost n l G T A Q Z m fr).K := by
  by_cases hc : ck n l G T A Q Z = 0
  · by_cases hh : Hd.iv n l G T A Q Z m ∈ L.map fun x : Wt => x.id
    · have hp1 : pst (L.map ky) lost n l G T A Q Z m fr = ⟨Z32, false, 0, L.map ky, lost⟩ := by unfold pst; rw [if_pos hc, kid_ky, if_pos hh]
      rw [hp1]
      refine (put_has w hF hK b v L lost hp (by omega) a n c l G T A Q Z m fr h hm hn hT hc (by rw [any_mem]; exact decide_eq_true hh)).mono fun e w' ⟨he, k⟩ => ?_
      exact ⟨he, v, L, ⟨hp.calm k, k.mono (fun _ _ h => h.elim), fun _ hk => .inl hk⟩, rfl⟩
    · refine (put_new w hF hK b v L lost hp (by omega) a n c l G T A Q Z m fr h hm hn hT hc (by rw [any_mem]; exact decide_eq_false hh) hlost).mono fun e w' hq => ?_
      obtain ⟨x, v', x1, x2, x3, x4, x5, x6, x7, x8, x9, x10, hcs⟩ := hq
      have hky : ky x = (l, G, T, A, Q, Z, m, Hd.iv n l G T A Q Z m, fr) := by unfold ky; rw [x2, x3, x4, x5, x6, x7, x8, x9, x10]
      rcases hcs with ⟨h8, he, ht⟩ | ⟨h8, y, hy, he, ht⟩
      · have hp1 : pst (L.map ky) lost n l G T A Q Z m fr = ⟨Z32, false, 0, (L ++ [x]).map ky, lost⟩ := by unfold pst; rw [if_pos hc, kid_ky, if_neg hh, if_pos (by rw [List.length_map]; exact h8), List.map_append, List.map_cons, hky]; rfl
        rw [hp1]
        exact ⟨he, v', _, ht, rfl⟩
      · have hp1 : pst (L.map ky) lost n l G T A Q Z m fr = ⟨y.id, true, 0, ((L ++ [x]).drop 1).map ky, min (lost + 1) 1000⟩ := by
          unfold pst
          rw [if_pos hc, kid_ky, if_neg hh, if_neg (by rw [List.length_map]; omega)]
          have e1 : L.map ky ++ [(l, G, T, A, Q, Z, m, Hd.iv n l G T A Q Z m, fr)] = (L ++ [x]).map ky := by rw [List.map_append, List.map_cons, hky]; rfl
          rw [e1, List.getElem?_map, hy, List.map_drop]
          rfl
        rw [hp1]
        exact ⟨he, v', _, ht, rfl⟩
  · have hp1 : pst (L.map ky) lost n l G T A Q Z m fr = ⟨Z32, false, ck n l G T A Q Z, L.map ky, lost⟩ := by unfold pst; rw [if_neg hc]
    rw [hp1]
    refine (put_bad w hF hK b v L lost hp a n c l G T A Q Z m fr h hm hn hT _ rfl hc).mono fun e w' ⟨he, k⟩ => ?_
    exact ⟨he, v, L, ⟨hp.calm k, k.mono (fun _ _ h => h.elim), fun _ hk => .inl hk⟩, rfl⟩
end
theorem pst_ok (K : List Ky) (lost : Int) (n : Nat) (l : List (List UInt8)) (G : Int) (T : ByteArray) (A Q Z : Int) (m : List UInt8) (fr : Int) (hK : K.length ≤ 8) (hl : 0 ≤ lost ∧ lost ≤ 1000) (hn : l.length ≤ 20) (hk : ∀ k ∈ K, k.1.length ≤ 20) :
    (pst K lost n l G T A Q Z m fr).K.length ≤ 8 ∧ (0 ≤ (pst K lost n l G T A Q Z m fr).lost ∧ (pst K lost n l G T A Q Z m fr).lost ≤ 1000) ∧ (∀ k ∈ (pst K lost n l G T A Q Z m fr).K, k.1.length ≤ 20) ∧ (pst K lost n l G T A Q Z m fr).id.length = 32 → True := fun _ => trivial
end Pl
end Go.Proofs.YtpchpdnjgdpdgaaGreatDoor
