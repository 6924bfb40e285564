/-
  Plain law of trees given by rows of children: no way is endless, each stands once, behind its parent.
-/
import Derived.Test.YtgpimeobkacniaaSq6
set_option linter.unusedVariables false
set_option linter.unusedSimpArgs false
namespace Go.Proofs.Ytgpimeobkacniaa
open Go.RowKit
namespace Sq
abbrev Wd := List UInt8
/-- Rows of children: who stands in one has that one as its ref. -/
structure Tr (R : Wd → List Wd) (K : List Wd) (up : Wd → Wd) (z : Wd) : Prop where
  mem : ∀ r y, y ∈ R r ↔ y ∈ K ∧ up y = r
  nd : ∀ r, (R r).Nodup
  nz : z ∉ K
/-- How deep a thing stands. -/
def Dp (up : Wd → Wd) (z : Wd) : Nat → Wd → Prop
  | 0, x => x = z
  | n + 1, x => x ≠ z ∧ Dp up z n (up x)
theorem Dp.uniq {up : Wd → Wd} {z : Wd} : ∀ {n m : Nat} {x : Wd}, Dp up z n x → Dp up z m x → n = m
  | 0, 0, _, _, _ => rfl
  | 0, m + 1, _, h, h' => absurd h h'.1
  | n + 1, 0, _, h, h' => absurd h' h.1
  | n + 1, m + 1, _, h, h' => congrArg (· + 1) (Dp.uniq h.2 h'.2)
def upk (up : Wd → Wd) : Nat → Wd → Wd
  | 0, y => y
  | k + 1, y => upk up k (up y)
theorem upk_up (up : Wd → Wd) : ∀ (k : Nat) (y : Wd), upk up (k + 1) y = up (upk up k y)
  | 0, _ => rfl
  | k + 1, y => upk_up up k (up y)
section
variable {R : Wd → List Wd} {K : List Wd} {up : Wd → Wd} {z : Wd}
theorem Tr.dp (t : Tr R K up z) {d : Nat} {r x : Wd} (h : Dp up z d r) (hx : x ∈ R r) : Dp up z (d + 1) x := by
  obtain ⟨h1, h2⟩ := (t.mem r x).1 hx
  exact ⟨fun e => t.nz (e ▸ h1), by rw [h2]; exact h⟩
theorem Tr.dep_aux (t : Tr R K up z) : ∀ (n d : Nat) (r : Wd) (U : List Wd), U.length ≤ n → Dp up z d r → (∀ y ∈ K, ∀ m, d < m → Dp up z m y → y ∈ U) → Dep R n r
  | 0, d, r, U, hU, hd, hK => by
    show R r = []
    cases h : R r with
    | nil => rfl
    | cons x l =>
      have hx : x ∈ R r := by rw [h]; exact List.mem_cons_self
      have h1 := hK x ((t.mem r x).1 hx).1 (d + 1) (by omega) (t.dp hd hx)
      rw [List.eq_nil_of_length_eq_zero (by omega : U.length = 0)] at h1
      cases h1
  | n + 1, d, r, U, hU, hd, hK => fun x hx => by
    have hdx := t.dp hd hx
    have h1 := hK x ((t.mem r x).1 hx).1 (d + 1) (by omega) hdx
    refine t.dep_aux n (d + 1) x (U.erase x) (by rw [List.length_erase_of_mem h1]; omega) hdx fun y hy m hm hdy => ?_
    exact (List.mem_erase_of_ne (fun e => by subst e; have := Dp.uniq hdx hdy; omega)).2 (hK y hy m (by omega) hdy)
theorem Tr.dep (t : Tr R K up z) : Dep R K.length z := t.dep_aux K.length 0 z K (Nat.le_refl _) rfl (fun y hy _ _ _ => hy)
theorem Tr.anc (t : Tr R K up z) : ∀ (n d : Nat) (r : Wd), Dp up z d r → ∀ y ∈ pre R n r, y ∈ K ∧ ∃ k, upk up (k + 1) y = r ∧ Dp up z (d + (k + 1)) y
  | 0, d, r, _, y, hy => by cases hy
  | n + 1, d, r, hd, y, hy => by
    unfold pre at hy
    obtain ⟨x, hx, hy⟩ := List.mem_flatMap.1 hy
    have hdx := t.dp hd hx
    rcases List.mem_cons.1 hy with rfl | hy
    · obtain ⟨h1, h2⟩ := (t.mem r y).1 hx
      exact ⟨h1, 0, h2, hdx⟩
    · obtain ⟨h1, k, h2, h3⟩ := t.anc n (d + 1) x hdx y hy
      refine ⟨h1, k + 1, ?_, by rw [show d + (k + 1 + 1) = d + 1 + (k + 1) by omega]; exact h3⟩
      rw [upk_up, h2]
      exact ((t.mem r x).1 hx).2
theorem Tr.pre_nodup (t : Tr R K up z) : ∀ (n d : Nat) (r : Wd), Dp up z d r → (pre R n r).Nodup
  | 0, _, _, _ => List.nodup_nil
  | n + 1, d, r, hd => by
    have key : ∀ x ∈ R r, ∀ y ∈ x :: pre R n x, ∃ k, upk up k y = x ∧ Dp up z (d + 1 + k) y := fun x hx y hy => by
      rcases List.mem_cons.1 hy with rfl | hy
      · exact ⟨0, rfl, t.dp hd hx⟩
      · obtain ⟨_, k, h1, h2⟩ := t.anc n (d + 1) x (t.dp hd hx) y hy
        exact ⟨k + 1, h1, h2⟩
    show List.Pairwise (· ≠ ·) ((R r).flatMap fun x => x :: pre R n x)
    rw [List.pairwise_flatMap]
    refine ⟨fun x hx => ?_, (t.nd r).imp_of_mem fun {x x'} hx hx' hne y hy y' hy' e => ?_⟩
    · have hdx := t.dp hd hx
      show List.Nodup (x :: pre R n x)
      rw [List.nodup_cons]
      refine ⟨fun h => ?_, t.pre_nodup n (d + 1) x hdx⟩
      obtain ⟨_, k, _, h2⟩ := t.anc n (d + 1) x hdx x h
      have := Dp.uniq hdx h2
      omega
    · subst e
      obtain ⟨k, h1, h2⟩ := key x hx y hy
      obtain ⟨k', h1', h2'⟩ := key x' hx' y hy'
      have e := Dp.uniq h2 h2'
      obtain rfl : k = k' := by omega
      exact hne (h1.symm.trans h1')
theorem nodup_len : ∀ {l U : List Wd}, l.Nodup → (∀ y ∈ l, y ∈ U) → l.length ≤ U.length
  | [], _, _, _ => Nat.zero_le _
  | x :: l, U, h, hs => by
    rw [List.nodup_cons] at h
    have hx := hs x List.mem_cons_self
    have := nodup_len (l := l) (U := U.erase x) h.2 (fun y hy => (List.mem_erase_of_ne (fun e => h.1 (by rw [← e]; exact hy))).2 (hs y (List.mem_cons_of_mem _ hy)))
    rw [List.length_erase_of_mem hx] at this
    have := List.length_pos_of_mem hx
    rw [List.length_cons]
    omega
theorem Tr.pre_len (t : Tr R K up z) (n : Nat) : (pre R n z).length ≤ K.length := nodup_len (t.pre_nodup n 0 z rfl) (fun y hy => (t.anc n 0 z rfl y hy).1)
/-- x stands ahead of y. -/
def Bf (x y : Wd) (l : List Wd) : Prop := ∃ A C, l = A ++ x :: C ∧ y ∈ C
theorem Bf.wide {x y : Wd} {l : List Wd} (h : Bf x y l) (A C : List Wd) : Bf x y (A ++ l ++ C) := by
  obtain ⟨P, S, rfl, hy⟩ := h
  exact ⟨A ++ P, S ++ C, by simp, List.mem_append_left _ hy⟩
theorem Bf.flat {x y : Wd} {l : List Wd} {f : Wd → List Wd} (h : Bf x y l) (hx : x ∈ f x) (hy : y ∈ f y) (hf : ∃ t, f x = x :: t) : Bf x y (l.flatMap f) := by
  obtain ⟨P, S, rfl, hs⟩ := h
  obtain ⟨t, ht⟩ := hf
  rw [List.flatMap_append, List.flatMap_cons, ht]
  exact ⟨P.flatMap f, t ++ S.flatMap f, by simp, List.mem_append_right _ (List.mem_flatMap.2 ⟨y, hs, hy⟩)⟩
/-- Where one stands, what is below it follows. -/
theorem seg : ∀ (n : Nat) (r x : Wd), Dep R n r → x ∈ pre R (n + 1) r → ∃ k A C, pre R (n + 1) r = A ++ (x :: pre R (k + 1) x) ++ C ∧ Dep R k x
  | 0, r, x, hd, hx => by
    rw [pre, show R r = [] from hd] at hx
    cases hx
  | n + 1, r, x, hd, hx => by
    rw [pre] at hx
    obtain ⟨y, hy, hx⟩ := List.mem_flatMap.1 hx
    obtain ⟨P, S, e⟩ := List.append_of_mem hy
    rcases List.mem_cons.1 hx with rfl | hx
    · refine ⟨n, P.flatMap (fun x => x :: pre R (n + 1) x), S.flatMap (fun x => x :: pre R (n + 1) x), ?_, hd x hy⟩
      rw [pre, e]
      simp
    · obtain ⟨k, A, C, h1, h2⟩ := seg n y x (hd y hy) hx
      refine ⟨k, P.flatMap (fun x => x :: pre R (n + 1) x) ++ y :: A, C ++ S.flatMap (fun x => x :: pre R (n + 1) x), ?_, h2⟩
      rw [pre, e, List.flatMap_append, List.flatMap_cons, h1]
      simp
theorem row_in {n : Nat} {r y : Wd} (h : y ∈ R r) : y ∈ pre R (n + 1) r := by
  rw [pre]
  exact List.mem_flatMap.2 ⟨y, h, List.mem_cons_self⟩
theorem row_bf {n : Nat} {r x y : Wd} (h : Bf x y (R r)) : Bf x y (pre R (n + 1) r) := by
  rw [pre]
  exact h.flat List.mem_cons_self List.mem_cons_self ⟨_, rfl⟩
/-- Who stands in the order stands behind its ref, which stands there too. -/
theorem par_in : ∀ (n : Nat) (r y : Wd), y ∈ pre R n r → y ∈ R r ∨ ∃ x, x ∈ pre R n r ∧ y ∈ R x
  | 0, r, y, hy => by cases hy
  | n + 1, r, y, hy => by
    rw [pre] at hy
    obtain ⟨x, hx, hy⟩ := List.mem_flatMap.1 hy
    rcases List.mem_cons.1 hy with rfl | hy
    · exact .inl hx
    · rcases par_in n x y hy with h | ⟨u, h, h'⟩
      · exact .inr ⟨x, by rw [pre]; exact List.mem_flatMap.2 ⟨x, hx, List.mem_cons_self⟩, h⟩
      · exact .inr ⟨u, by rw [pre]; exact List.mem_flatMap.2 ⟨x, hx, List.mem_cons_of_mem _ h⟩, h'⟩
/-- Where an id stands; -1: it does not. -/
def plc (l : List Wd) (x : Wd) : Int := match l.findIdx? (fun y => decide (y = x)) with | some i => i | none => -1
theorem plc_none {l : List Wd} {x : Wd} (h : x ∉ l) : plc l x = -1 := by
  have : l.findIdx? (fun y => decide (y = x)) = none := List.findIdx?_eq_none_iff.2 fun y hy => decide_eq_false (fun e => h (e ▸ hy))
  unfold plc
  rw [this]
theorem plc_at {l : List Wd} {x : Wd} {i : Nat} (hi : l[i]? = some x) (hb : ∀ j y, j < i → l[j]? = some y → y ≠ x) : plc l x = i := by
  have : l.findIdx? (fun y => decide (y = x)) = some i := by
    rw [List.findIdx?_eq_some_iff_getElem]
    obtain ⟨h1, h2⟩ := List.getElem?_eq_some_iff.1 hi
    refine ⟨h1, decide_eq_true h2, fun j hj => ?_⟩
    simp only [decide_eq_true_eq]
    exact hb j _ hj (List.getElem?_eq_getElem (by omega))
  unfold plc
  rw [this]
theorem plc_split {A C : List Wd} {x : Wd} (h : x ∉ A) : plc (A ++ x :: C) x = A.length := by
  refine plc_at (by simp) fun j y hj hy e => h ?_
  rw [List.getElem?_append_left hj] at hy
  exact e ▸ List.mem_of_getElem? hy
theorem plc_in {l : List Wd} {x : Wd} : 0 ≤ plc l x ↔ x ∈ l := by
  by_cases h : x ∈ l
  · obtain ⟨i, hi, hb⟩ : ∃ i, l[i]? = some x ∧ ∀ j y, j < i → l[j]? = some y → y ≠ x := by
      induction l with
      | nil => cases h
      | cons a l ih =>
        by_cases e : a = x
        · exact ⟨0, congrArg some e, fun j y hj => absurd hj (Nat.not_lt_zero _)⟩
        · obtain ⟨i, h1, h2⟩ := ih (by rcases List.mem_cons.1 h with h | h; exact absurd h.symm e; exact h)
          refine ⟨i + 1, h1, fun j y hj hy => ?_⟩
          cases j with
          | zero => exact (show some a = some y from hy) |> fun e2 => by rw [← Option.some.inj e2]; exact e
          | succ j => exact h2 j y (by omega) hy
    rw [plc_at hi hb]
    exact ⟨fun _ => h, fun _ => by omega⟩
  · rw [plc_none h]
    exact ⟨fun h' => absurd h' (by omega), fun h' => absurd h' h⟩
theorem plc_bf {l : List Wd} {x y : Wd} (hn : l.Nodup) (h : Bf x y l) : plc l x < plc l y := by
  obtain ⟨A, C, rfl, hy⟩ := h
  rw [List.nodup_append] at hn
  obtain ⟨_, h2, h3⟩ := hn
  rw [List.nodup_cons] at h2
  rw [plc_split (fun hx => h3 x hx x List.mem_cons_self rfl)]
  obtain ⟨P, S, rfl⟩ := List.append_of_mem hy
  have hyA : y ∉ A ++ x :: P := by
    intro hc
    rcases List.mem_append.1 hc with hc | hc
    · exact h3 y hc y (List.mem_cons_of_mem _ hy) rfl
    · rcases List.mem_cons.1 hc with rfl | hc
      · exact h2.1 hy
      · have := h2.2
        rw [List.nodup_append] at this
        exact this.2.2 y hc y List.mem_cons_self rfl
  have e : A ++ x :: (P ++ y :: S) = (A ++ x :: P) ++ y :: S := by simp
  rw [e, plc_split hyA, List.length_append, List.length_cons]
  omega
/-- All of the law on places. -/
theorem Tr.behind (t : Tr R K up z) {y : Wd} (hy : y ∈ K) :
    (plc (pre R (K.length + 1) z) y < 0 → up y ≠ z ∧ plc (pre R (K.length + 1) z) (up y) < 0) ∧
    (0 ≤ plc (pre R (K.length + 1) z) y → up y ≠ z → 0 ≤ plc (pre R (K.length + 1) z) (up y) ∧ plc (pre R (K.length + 1) z) (up y) < plc (pre R (K.length + 1) z) y) ∧
    (0 ≤ plc (pre R (K.length + 1) z) y → ∀ m, Bf y m (R (up y)) → plc (pre R (K.length + 1) z) y < plc (pre R (K.length + 1) z) m) := by
  have hd := t.dep
  have hn := t.pre_nodup (K.length + 1) 0 z rfl
  have hin : ∀ {y}, y ∈ R z → y ∈ pre R (K.length + 1) z := fun h => row_in (n := K.length) h
  have hbf : ∀ {x y}, Bf x y (R z) → Bf x y (pre R (K.length + 1) z) := fun h => row_bf (n := K.length) h
  have hsg := fun x h => seg (R := R) K.length z x hd h
  have hpar := par_in (R := R) (K.length + 1) z y
  have hyr : y ∈ R (up y) := (t.mem _ _).2 ⟨hy, rfl⟩
  generalize pre R (K.length + 1) z = o at hn hin hbf hsg hpar ⊢
  have below : up y ∈ o → Bf (up y) y o ∧ ∀ m, Bf y m (R (up y)) → Bf y m o := fun h => by
    obtain ⟨k, A, C, e, _⟩ := hsg _ h
    rw [e]
    refine ⟨Bf.wide ⟨[], _, rfl, row_in hyr⟩ A C, fun m hm => ?_⟩
    have := (row_bf (n := k) hm).wide (A ++ [up y]) C
    simpa using this
  refine ⟨fun h => ⟨fun e => ?_, ?_⟩, fun h hz => ?_, fun h m hm => ?_⟩
  · have := plc_in.2 (hin (e ▸ hyr))
    omega
  · refine Classical.byContradiction fun hc => ?_
    obtain ⟨A, C, e, h2⟩ := (below (plc_in.1 (by omega))).1
    have := plc_in.2 (show y ∈ o by rw [e]; exact List.mem_append_right _ (List.mem_cons_of_mem _ h2))
    omega
  · rcases hpar (plc_in.1 h) with h1 | ⟨x, h1, h2⟩
    · exact absurd ((t.mem _ _).1 h1).2 hz
    · have e := ((t.mem _ _).1 h2).2
      rw [← e] at h1
      exact ⟨plc_in.2 h1, plc_bf hn (below h1).1⟩
  · rcases hpar (plc_in.1 h) with h1 | ⟨x, h1, h2⟩
    · have e := ((t.mem _ _).1 h1).2
      rw [e] at hm
      exact plc_bf hn (hbf hm)
    · have e := ((t.mem _ _).1 h2).2
      rw [← e] at h1
      exact plc_bf hn ((below h1).2 m hm)
end
end Sq
end Go.Proofs.Ytgpimeobkacniaa
