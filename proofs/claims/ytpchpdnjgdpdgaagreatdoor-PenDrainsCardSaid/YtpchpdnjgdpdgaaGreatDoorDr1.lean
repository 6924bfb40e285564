/-
  The plain law of draining: what was put, what came out, what waits still.
-/
import Derived.Test.YtpchpdnjgdpdgaaGreatDoorPlD
import Derived.Test.YtpchpdnjgdpdgaaGreatDoorDrT
set_option linter.unusedVariables false
set_option linter.unusedSimpArgs false
namespace Go.Proofs.YtpchpdnjgdpdgaaGreatDoor
open Go.RowKit
namespace Dr
open Oct Ids Gn Hd Pn Px Pl Ru Nx
/-- A header, as it waits. -/
def kx (x : Hh) : Ky := (x.l, x.G, x.T, x.A, x.Q, x.Z, x.m, hiv x, 1)
theorem kid_kx (x : Hh) : kid (kx x) = hiv x := rfl
/-- What was put of the first i. -/
structure PutInv (K : List Hh) (i : Nat) (KK : List Ky) (n : Nat) : Prop where
  len : KK.length ≤ i
  cnt : KK.length ≤ n
  src : ∀ k ∈ KK, ∃ x ∈ K, hck x = 0 ∧ k = kx x
  has : ∀ (j : Nat) (x : Hh), j < i → K[j]? = some x → hck x = 0 → hiv x ∈ KK.map kid
theorem PutInv.start (K : List Hh) : PutInv K 0 [] 0 := ⟨Nat.le_refl _, Nat.le_refl _, fun k hk => (by cases hk), fun j x hj => absurd hj (Nat.not_lt_zero _)⟩
theorem PutInv.bad {K : List Hh} {i : Nat} {KK : List Ky} {n : Nat} (h : PutInv K i KK n) {x : Hh} (hx : K[i]? = some x) (hc : hck x ≠ 0) : PutInv K (i + 1) KK n :=
  ⟨Nat.le_succ_of_le h.len, h.cnt, h.src, fun j y hj hy hc' => by
    rcases Nat.lt_or_ge j i with h1 | h1
    · exact h.has j y h1 hy hc'
    · obtain rfl : j = i := by omega
      rw [hx] at hy
      cases hy
      exact absurd hc' hc⟩
theorem PutInv.is {K : List Hh} {i : Nat} {KK : List Ky} {n : Nat} (h : PutInv K i KK n) {x : Hh} (hx : K[i]? = some x) (hm : hiv x ∈ KK.map kid) : PutInv K (i + 1) KK (n + 1) :=
  ⟨Nat.le_succ_of_le h.len, Nat.le_succ_of_le h.cnt, h.src, fun j y hj hy hc' => by
    rcases Nat.lt_or_ge j i with h1 | h1
    · exact h.has j y h1 hy hc'
    · obtain rfl : j = i := by omega
      rw [hx] at hy
      cases hy
      exact hm⟩
theorem PutInv.more {K : List Hh} {i : Nat} {KK : List Ky} {n : Nat} (h : PutInv K i KK n) {x : Hh} (hx : K[i]? = some x) (hc : hck x = 0) : PutInv K (i + 1) (KK ++ [kx x]) (n + 1) :=
  ⟨by have := h.len; simp; omega, by have := h.cnt; simp; omega, fun k hk => by
    rcases List.mem_append.1 hk with hk | hk
    · exact h.src k hk
    · obtain rfl := List.mem_singleton.1 hk
      exact ⟨x, List.mem_of_getElem? hx, hc, rfl⟩, fun j y hj hy hc' => by
    rw [List.map_append, List.mem_append]
    rcases Nat.lt_or_ge j i with h1 | h1
    · exact .inl (h.has j y h1 hy hc')
    · obtain rfl : j = i := by omega
      rw [hx] at hy
      cases hy
      exact .inr (by simp [kid_kx])⟩
/-- What one Put answers. -/
def rput (KK : List Ky) (lost : Int) (x : Hh) : Res := pst KK lost x.n x.l x.G x.T x.A x.Q x.Z x.m 1
theorem put_next {K : List Hh} {i : Nat} {KK : List Ky} {n : Nat} (h : PutInv K i KK n) (hi : i < 8) {x : Hh} (hx : K[i]? = some x) (lost : Int) :
    (rput KK lost x).e = hck x ∧ (rput KK lost x).lost = lost ∧ PutInv K (i + 1) (rput KK lost x).K (if hck x = 0 then n + 1 else n) := by
  have h8 : KK.length < 8 := by have := h.len; omega
  unfold rput pst
  by_cases hc : hck x = 0
  · have hc' : ck x.n x.l x.G x.T x.A x.Q x.Z = 0 := hc
    rw [if_pos hc', if_pos hc]
    by_cases hm : Hd.iv x.n x.l x.G x.T x.A x.Q x.Z x.m ∈ KK.map kid
    · rw [if_pos hm]
      exact ⟨hc.symm, rfl, h.is hx hm⟩
    · rw [if_neg hm, if_pos h8]
      exact ⟨hc.symm, rfl, h.more hx hc⟩
  · have hc' : ck x.n x.l x.G x.T x.A x.Q x.Z ≠ 0 := hc
    rw [if_neg hc', if_neg hc]
    exact ⟨rfl, rfl, h.bad hx hc⟩
/-- What is so while it is drained: of K0 there came out O, there wait R. -/
structure DrInv (K0 O R : List Ky) : Prop where
  len : O.length + R.length = K0.length
  out : ∀ k ∈ O, k ∈ K0
  rest : ∀ k ∈ R, k ∈ K0
  all : ∀ k ∈ K0, k ∈ O ∨ k ∈ R
  par : ∀ (i : Nat) (k : Ky), O[i]? = some k → ∀ y ∈ k.1, y ∈ (O.map kid).take i
theorem DrInv.start (K0 : List Ky) : DrInv K0 [] K0 := ⟨by simp, fun k hk => (by cases hk), fun k hk => hk, fun k hk => .inr hk, fun i k hi => by simp at hi⟩
theorem mem_cut3 {α : Type} {R : List α} {i : Nat} {k : α} (hk : R[i]? = some k) {x : α} : x ∈ R ↔ x = k ∨ x ∈ R.take i ++ R.drop (i + 1) := by
  have hi := (List.getElem?_eq_some_iff.1 hk).1
  have e : R = R.take i ++ (k :: R.drop (i + 1)) := by
    conv => lhs; rw [← List.take_append_drop i R]
    rw [List.drop_eq_getElem_cons hi, (List.getElem?_eq_some_iff.1 hk).2]
  constructor
  · intro h
    rw [e] at h
    rcases List.mem_append.1 h with h | h
    · exact .inr (List.mem_append_left _ h)
    · rcases List.mem_cons.1 h with h | h
      · exact .inl h
      · exact .inr (List.mem_append_right _ h)
  · rintro (h | h)
    · rw [h]; exact List.mem_of_getElem? hk
    · rcases List.mem_append.1 h with h | h
      · exact List.mem_of_mem_take h
      · exact List.mem_of_mem_drop h
theorem tix_at {kl : List (List UInt8)} {R : List Ky} {i : Nat} (h : tix kl R = some i) : ∃ k, R[i]? = some k ∧ ∀ y ∈ k.1, y ∈ kl := by
  unfold tix at h
  rw [List.findIdx?_eq_some_iff_getElem] at h
  obtain ⟨hi, hp, _⟩ := h
  exact ⟨R[i], List.getElem?_eq_getElem hi, (less_nil _ _).1 (by simpa using hp)⟩
theorem tix_no {kl : List (List UInt8)} {R : List Ky} (h : tix kl R = none) {k : Ky} (hk : k ∈ R) : ¬ ∀ y ∈ k.1, y ∈ kl := by
  unfold tix at h
  rw [List.findIdx?_eq_none_iff] at h
  intro hp
  have := h k hk
  rw [(less_nil _ _).2 hp] at this
  cases this
theorem DrInv.next {K0 O R : List Ky} (h : DrInv K0 O R) {i : Nat} {k : Ky} (hk : R[i]? = some k) (hp : ∀ y ∈ k.1, y ∈ O.map kid) : DrInv K0 (O ++ [k]) (R.take i ++ R.drop (i + 1)) := by
  have hi := (List.getElem?_eq_some_iff.1 hk).1
  refine ⟨by have := h.len; simp; omega, fun x hx => ?_, fun x hx => h.rest x ((mem_cut3 hk).2 (.inr hx)), fun x hx => ?_, fun j x hj y hy => ?_⟩
  · rcases List.mem_append.1 hx with hx | hx
    · exact h.out x hx
    · obtain rfl := List.mem_singleton.1 hx
      exact h.rest x (List.mem_of_getElem? hk)
  · rcases h.all x hx with hx | hx
    · exact .inl (List.mem_append_left _ hx)
    · rcases (mem_cut3 hk).1 hx with rfl | hx
      · exact .inl (by simp)
      · exact .inr hx
  · rw [List.map_append]
    have hj' : j ≤ O.length := by have := (List.getElem?_eq_some_iff.1 hj).1; simp at this; omega
    rw [List.take_append_of_le_length (by rw [List.length_map]; exact hj')]
    rcases Nat.lt_or_ge j O.length with h1 | h1
    · rw [List.getElem?_append_left h1] at hj
      exact h.par j x hj y hy
    · obtain rfl : j = O.length := by omega
      rw [List.getElem?_append_right (Nat.le_refl _), Nat.sub_self] at hj
      cases hj
      rw [List.take_of_length_le (by rw [List.length_map]; exact Nat.le_refl _)]
      exact hp y hy
theorem sm_l {x y : Hh} (h : sm x y = true) : x.l = y.l := by
  unfold sm smh at h
  simp only [Bool.and_eq_true, decide_eq_true_eq] at h
  exact h.2.2.2.2.2.2
/-- Of one id, of two unlike ones, there are none. -/
theorem notw_l {K : List Hh} (hT : ¬ Tw K) {x y : Hh} (hx : x ∈ K) (hy : y ∈ K) (cx : hck x = 0) (cy : hck y = 0) (h : hiv x = hiv y) : x.l = y.l := by
  obtain ⟨i, hi⟩ := List.getElem?_of_mem hx
  obtain ⟨j, hj⟩ := List.getElem?_of_mem hy
  have key : ∀ (i j : Nat) (x y : Hh), hck x = 0 → hck y = 0 → j < i → K[i]? = some x → K[j]? = some y → hiv x = hiv y → x.l = y.l := by
    intro i j x y cx cy hlt hi hj h
    cases hs : sm x y with
    | true => exact sm_l hs
    | false =>
      refine absurd ⟨i, j, x, y, hlt, hi, hj, ?_⟩ hT
      unfold twp
      rw [cx, cy, h, hs]
      simp
  rcases Nat.lt_trichotomy i j with h1 | h1 | h1
  · exact (key j i y x cy cx h1 hj hi h.symm).symm
  · subst h1
    rw [hi] at hj
    cases hj
    rfl
  · exact key i j x y cx cy h1 hi hj h
/-- One that is none of those that came out, though all its parents did: then there are two unlike ones of one id. -/
theorem left_tw {K : List Hh} {K0 O R : List Ky} {n : Nat} (hp : PutInv K K.length K0 n) (hd : DrInv K0 O R) (ht : tix (O.map kid) R = none) {x : Hh} (hx : x ∈ K) (hc : hck x = 0) (hl : ∀ y ∈ x.l, y ∈ O.map kid) (hn : hiv x ∉ O.map kid) : Tw K := by
  refine Classical.byContradiction fun hT => ?_
  obtain ⟨j, hj⟩ := List.getElem?_of_mem hx
  have h1 := hp.has j x (List.getElem?_eq_some_iff.1 hj).1 hj hc
  obtain ⟨k, hk, e⟩ := List.mem_map.1 h1
  rcases hd.all k hk with h2 | h2
  · exact hn (e ▸ List.mem_map_of_mem h2)
  · obtain ⟨z, hz, cz, rfl⟩ := hp.src k hk
    refine tix_no ht h2 ?_
    rw [show (kx z).1 = z.l from rfl, notw_l hT hz hx cz hc e]
    exact hl
end Dr
end Go.Proofs.YtpchpdnjgdpdgaaGreatDoor
