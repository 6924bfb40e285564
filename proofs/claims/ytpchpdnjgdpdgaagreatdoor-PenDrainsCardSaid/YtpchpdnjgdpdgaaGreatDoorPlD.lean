/-
  What is the same of two pens: what stays so.
-/
import Derived.Test.YtpchpdnjgdpdgaaGreatDoorPlB
set_option linter.unusedVariables false
set_option linter.unusedSimpArgs false
namespace Go.Proofs.YtpchpdnjgdpdgaaGreatDoor
open Go.RowKit
namespace Pl
open Oct Ids Gn Hd Pn Px
open Mem (M It blk ids rows)
/-- Guards of arms: which operation stands next. -/
theorem at_alloc {P : Program} {ops : Array Oper} {Q : Exit → Act → World → Prop} {d : Option Tmp} {ty : TypeId} {p : String} {af} {g} {rest : List Oper} {a : Act} {w : World} (T : TypeId) (h : wpList P ops Q ({ dst := d, op := .alloc T, type := ty, pos := p, after := af, guard := g } :: rest) a w) : wpList P ops Q ({ dst := d, op := .alloc T, type := ty, pos := p, after := af, guard := g } :: rest) a w := h
theorem at_store {P : Program} {ops : Array Oper} {Q : Exit → Act → World → Prop} {d : Option Tmp} {ty : TypeId} {p : String} {x y : Operand} {af} {g} {rest : List Oper} {a : Act} {w : World} (T : TypeId) (h : wpList P ops Q ({ dst := d, op := .store T x y, type := ty, pos := p, after := af, guard := g } :: rest) a w) : wpList P ops Q ({ dst := d, op := .store T x y, type := ty, pos := p, after := af, guard := g } :: rest) a w := h
def kok (k : Ky) : Prop := k.1.length ≤ 20 ∧ (kid k).length = 32
theorem kok_map {L : List Wt} (h : ∀ x ∈ L, x.l.length ≤ 20) : ∀ k ∈ L.map ky, kok k := by
  intro k hk
  obtain ⟨x, hx, rfl⟩ := List.mem_map.1 hk
  exact ⟨h x hx, x.hid⟩
theorem kok_of {L : List Wt} {K : List Ky} (e : L.map ky = K) (h : ∀ k ∈ K, kok k) : ∀ x ∈ L, x.l.length ≤ 20 := fun x hx => (h (ky x) (by rw [← e]; exact List.mem_map_of_mem hx)).1
structure ROk (r : Res) : Prop where
  len : r.K.length ≤ 8
  lost : 0 ≤ r.lost ∧ r.lost ≤ 1000
  kok : ∀ k ∈ r.K, kok k
  id : r.id.length = 32
theorem pst_ok2 (K : List Ky) (lost : Int) (n : Nat) (l : List (List UInt8)) (G : Int) (T : ByteArray) (A Q Z : Int) (m : List UInt8) (fr : Int) (hK : K.length ≤ 8) (hl : 0 ≤ lost ∧ lost ≤ 1000) (hn : l.length ≤ 20) (hk : ∀ k ∈ K, kok k) : ROk (pst K lost n l G T A Q Z m fr) := by
  have hz : (Z32 : List UInt8).length = 32 := rfl
  have hnew : ∀ k ∈ K ++ [((l, G, T, A, Q, Z, m, Hd.iv n l G T A Q Z m, fr) : Ky)], kok k := by
    intro k hk'
    rcases List.mem_append.1 hk' with h | h
    · exact hk k h
    · obtain rfl := List.mem_singleton.1 h
      exact ⟨hn, iv_len _ _ _ _ _ _ _ _⟩
  unfold pst
  by_cases h1 : ck n l G T A Q Z = 0
  · rw [if_pos h1]
    by_cases h2 : Hd.iv n l G T A Q Z m ∈ K.map kid
    · rw [if_pos h2]; exact ⟨hK, hl, hk, hz⟩
    · rw [if_neg h2]
      by_cases h3 : K.length < 8
      · rw [if_pos h3]; exact ⟨by simp; omega, hl, hnew, hz⟩
      · rw [if_neg h3]
        refine ⟨by simp; omega, ?_, fun k hk' => hnew k (List.mem_of_mem_drop hk'), ?_⟩
        · show 0 ≤ min (lost + 1) 1000 ∧ min (lost + 1) 1000 ≤ 1000
          omega
        · show ((((K ++ [((l, G, T, A, Q, Z, m, Hd.iv n l G T A Q Z m, fr) : Ky)])[0]?).map kid).getD Z32).length = 32
          cases h4 : (K ++ [((l, G, T, A, Q, Z, m, Hd.iv n l G T A Q Z m, fr) : Ky)])[0]? with
          | none => exact hz
          | some k => exact (hnew k (List.mem_of_getElem? h4)).2
  · rw [if_neg h1]; exact ⟨hK, hl, hk, hz⟩
/-- What two pens that are alike have alike. -/
theorem ky_len {L X : List Wt} (h : L.map ky = X.map ky) : L.length = X.length := by have := congrArg List.length h; simpa using this
theorem ky_ids {L X : List Wt} (h : L.map ky = X.map ky) : (L.map fun x : Wt => x.id) = X.map fun x : Wt => x.id := by rw [← kid_ky, h, kid_ky]
theorem ky_flat {L X : List Wt} (h : L.map ky = X.map ky) : (L.flatMap fun x : Wt => x.l) = X.flatMap fun x : Wt => x.l := by
  have e : ∀ L : List Wt, (L.flatMap fun x : Wt => x.l) = (L.map ky).flatMap fun k => k.1 := fun L => by rw [List.flatMap_map]; rfl
  rw [e, h, ← e]
theorem ky_at {L X : List Wt} (h : L.map ky = X.map ky) {i : Nat} {x y : Wt} (hx : L[i]? = some x) (hy : X[i]? = some y) : ky x = ky y := by
  have := congrArg (fun l => l[i]?) h
  simp only [List.getElem?_map, hx, hy, Option.map_some] at this
  exact Option.some.inj this
theorem ky_cut {L X : List Wt} (h : L.map ky = X.map ky) (i : Nat) : (L.take i ++ L.drop (i + 1)).map ky = (X.take i ++ X.drop (i + 1)).map ky := by
  rw [List.map_append, List.map_append, List.map_take, List.map_drop, h, ← List.map_take, ← List.map_drop]
theorem ky_same {x y : Wt} (h : ky x = ky y) : smh x.l x.G x.T x.A x.Q x.Z x.m y.l y.G y.T y.A y.Q y.Z y.m = true ∧ x.fr = y.fr := by
  unfold ky at h
  simp only [Prod.mk.injEq] at h
  obtain ⟨h1, h2, h3, h4, h5, h6, h7, h8, h9⟩ := h
  rw [h1, h2, h3, h4, h5, h6, h7]
  exact ⟨smh_self _ _ _ _ _ _ _, h9⟩
theorem tix_lt {kl : List (List UInt8)} {L : List Wt} {i : Nat} (h : tix kl (L.map ky) = some i) : i < L.length := by
  unfold tix at h
  rw [List.findIdx?_eq_some_iff_getElem] at h
  obtain ⟨h1, _⟩ := h
  rwa [List.length_map] at h1
theorem mem_cut2 {L : List Wt} {i : Nat} {x : Wt} (h : x ∈ L.take i ++ L.drop (i + 1)) : x ∈ L := by
  rcases List.mem_append.1 h with h | h
  · exact List.mem_of_mem_take h
  · exact List.mem_of_mem_drop h
theorem calm_of {w w' : World} {p : Prop} (h : p ∧ w' = w) : p ∧ Keep (fun _ => False) w w' := ⟨h.1, h.2 ▸ Keep.refl _ _⟩
/-- Take, where it is known who goes. -/
theorem ptake_at (w : World) (b : Nat) (v : Value) (L : List Wt) (lost : Int) (h : PenAt w b v L lost) (hl : L.length ≤ 900) (ka : Option Addr) (kn kc : Nat) (kl : List (List UInt8)) (hk : At w ka kn kl) (hkm : kn ≤ 100000) (i : Nat) (x : Wt) (hi : tix kl (L.map ky) = some i) (hx : L[i]? = some x) :
    Calls Tryz.prog 35 #[.pointer (some ⟨b, 0, none⟩), .slice ka kn kc] w fun e w' => e = .returned (.tuple #[.agg (hv x).toArray, .int .i64 x.fr, .bool true]) ∧ ∃ v', PenTo w w' b v L v' (L.take i ++ L.drop (i + 1)) lost ∧ At w' x.a x.n x.l := by
  refine (ptakeK w b v L lost h hl ka kn kc kl hk hkm).mono fun e w' hq => ?_
  rcases hq with ⟨i', x', v', hi', hx', he, ht, ha⟩ | ⟨hn, _⟩
  · rw [hi] at hi'
    cases hi'
    rw [hx] at hx'
    cases hx'
    exact ⟨he, v', ht, ha⟩
  · rw [hi] at hn; cases hn
theorem ptake_no (w : World) (b : Nat) (v : Value) (L : List Wt) (lost : Int) (h : PenAt w b v L lost) (hl : L.length ≤ 900) (ka : Option Addr) (kn kc : Nat) (kl : List (List UInt8)) (hk : At w ka kn kl) (hkm : kn ≤ 100000) (hi : tix kl (L.map ky) = none) :
    Calls Tryz.prog 35 #[.pointer (some ⟨b, 0, none⟩), .slice ka kn kc] w fun e w' => e = .returned (.tuple #[.agg hz0, .int .i64 0, .bool false]) ∧ Keep (fun _ => False) w w' := by
  refine (ptakeK w b v L lost h hl ka kn kc kl hk hkm).mono fun e w' hq => ?_
  rcases hq with ⟨i', x', v', hi', _⟩ | ⟨_, he, k⟩
  · rw [hi] at hi'; cases hi'
  · exact ⟨he, k⟩
end Pl
end Go.Proofs.YtpchpdnjgdpdgaaGreatDoor
