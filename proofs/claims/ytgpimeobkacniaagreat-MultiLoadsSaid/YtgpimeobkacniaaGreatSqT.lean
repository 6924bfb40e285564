/-
  Plain law of trees given by rows of children: no way is endless, each stands once, behind its parent.
-/
import Derived.Test.YtgpimeobkacniaaGreatSq6
set_option linter.unusedVariables false
set_option linter.unusedSimpArgs false
namespace Go.Proofs.YtgpimeobkacniaaGreat
open Go.RowKit
namespace Sq
abbrev Wd := List UInt8
/-- How deep a thing stands. -/
def Dp (up : Wd → Wd) (z : Wd) : Nat → Wd → Prop
  | 0, x => x = z
  | n + 1, x => x ≠ z ∧ Dp up z n (up x)
theorem Dp.uniq {up : Wd → Wd} {z : Wd} : ∀ {n m : Nat} {x : Wd}, Dp up z n x → Dp up z m x → n = m
  | 0, 0, _, _, _ => rfl
  | 0, m + 1, _, h, h' => absurd h h'.1
  | n + 1, 0, _, h, h' => absurd h' h.1
  | n + 1, m + 1, _, h, h' => congrArg (· + 1) (Dp.uniq h.2 h'.2)
def upk (up : Wd → Wd) : Nat → Wd → Wd
  | 0, y => y
  | k + 1, y => upk up k (up y)
theorem upk_up (up : Wd → Wd) : ∀ (k : Nat) (y : Wd), upk up (k + 1) y = up (upk up k y)
  | 0, _ => rfl
  | k + 1, y => upk_up up k (up y)
section
variable {R : Wd → List Wd} {K : List Wd} {up : Wd → Wd} {z : Wd}
theorem nodup_len : ∀ {l U : List Wd}, l.Nodup → (∀ y ∈ l, y ∈ U) → l.length ≤ U.length
  | [], _, _, _ => Nat.zero_le _
  | x :: l, U, h, hs => by
    rw [List.nodup_cons] at h
    have hx := hs x List.mem_cons_self
    have := nodup_len (l := l) (U := U.erase x) h.2 (fun y hy => (List.mem_erase_of_ne (fun e => h.1 (by rw [← e]; exact hy))).2 (hs y (List.mem_cons_of_mem _ hy)))
    rw [List.length_erase_of_mem hx] at this
    have := List.length_pos_of_mem hx
    rw [List.length_cons]
    omega
/-- x stands ahead of y. -/
def Bf (x y : Wd) (l : List Wd) : Prop := ∃ A C, l = A ++ x :: C ∧ y ∈ C
theorem Bf.wide {x y : Wd} {l : List Wd} (h : Bf x y l) (A C : List Wd) : Bf x y (A ++ l ++ C) := by
  obtain ⟨P, S, rfl, hy⟩ := h
  exact ⟨A ++ P, S ++ C, by simp, List.mem_append_left _ hy⟩
theorem Bf.flat {x y : Wd} {l : List Wd} {f : Wd → List Wd} (h : Bf x y l) (hx : x ∈ f x) (hy : y ∈ f y) (hf : ∃ t, f x = x :: t) : Bf x y (l.flatMap f) := by
  obtain ⟨P, S, rfl, hs⟩ := h
  obtain ⟨t, ht⟩ := hf
  rw [List.flatMap_append, List.flatMap_cons, ht]
  exact ⟨P.flatMap f, t ++ S.flatMap f, by simp, List.mem_append_right _ (List.mem_flatMap.2 ⟨y, hs, hy⟩)⟩
/-- Where one stands, what is below it follows. -/
theorem seg : ∀ (n : Nat) (r x : Wd), Dep R n r → x ∈ pre R (n + 1) r → ∃ k A C, pre R (n + 1) r = A ++ (x :: pre R (k + 1) x) ++ C ∧ Dep R k x
  | 0, r, x, hd, hx => by
    rw [pre, show R r = [] from hd] at hx
    cases hx
  | n + 1, r, x, hd, hx => by
    rw [pre] at hx
    obtain ⟨y, hy, hx⟩ := List.mem_flatMap.1 hx
    obtain ⟨P, S, e⟩ := List.append_of_mem hy
    rcases List.mem_cons.1 hx with rfl | hx
    · refine ⟨n, P.flatMap (fun x => x :: pre R (n + 1) x), S.flatMap (fun x => x :: pre R (n + 1) x), ?_, hd x hy⟩
      rw [pre, e]
      simp
    · obtain ⟨k, A, C, h1, h2⟩ := seg n y x (hd y hy) hx
      refine ⟨k, P.flatMap (fun x => x :: pre R (n + 1) x) ++ y :: A, C ++ S.flatMap (fun x => x :: pre R (n + 1) x), ?_, h2⟩
      rw [pre, e, List.flatMap_append, List.flatMap_cons, h1]
      simp
theorem row_in {n : Nat} {r y : Wd} (h : y ∈ R r) : y ∈ pre R (n + 1) r := by
  rw [pre]
  exact List.mem_flatMap.2 ⟨y, h, List.mem_cons_self⟩
theorem row_bf {n : Nat} {r x y : Wd} (h : Bf x y (R r)) : Bf x y (pre R (n + 1) r) := by
  rw [pre]
  exact h.flat List.mem_cons_self List.mem_cons_self ⟨_, rfl⟩
/-- Where an id stands; -1: it does not. -/
def plc (l : List Wd) (x : Wd) : Int := match l.findIdx? (fun y => decide (y = x)) with | some i => i | none => -1
theorem plc_none {l : List Wd} {x : Wd} (h : x ∉ l) : plc l x = -1 := by
  have : l.findIdx? (fun y => decide (y = x)) = none := List.findIdx?_eq_none_iff.2 fun y hy => decide_eq_false (fun e => h (e ▸ hy))
  unfold plc
  rw [this]
theorem plc_at {l : List Wd} {x : Wd} {i : Nat} (hi : l[i]? = some x) (hb : ∀ j y, j < i → l[j]? = some y → y ≠ x) : plc l x = i := by
  have : l.findIdx? (fun y => decide (y = x)) = some i := by
    rw [List.findIdx?_eq_some_iff_getElem]
    obtain ⟨h1, h2⟩ := List.getElem?_eq_some_iff.1 hi
    refine ⟨h1, decide_eq_true h2, fun j hj => ?_⟩
    simp only [decide_eq_true_eq]
    exact hb j _ hj (List.getElem?_eq_getElem (by omega))
  unfold plc
  rw [this]
theorem plc_split {A C : List Wd} {x : Wd} (h : x ∉ A) : plc (A ++ x :: C) x = A.length := by
  refine plc_at (by simp) fun j y hj hy e => h ?_
  rw [List.getElem?_append_left hj] at hy
  exact e ▸ List.mem_of_getElem? hy
theorem plc_in {l : List Wd} {x : Wd} : 0 ≤ plc l x ↔ x ∈ l := by
  by_cases h : x ∈ l
  · obtain ⟨i, hi, hb⟩ : ∃ i, l[i]? = some x ∧ ∀ j y, j < i → l[j]? = some y → y ≠ x := by
      induction l with
      | nil => cases h
      | cons a l ih =>
        by_cases e : a = x
        · exact ⟨0, congrArg some e, fun j y hj => absurd hj (Nat.not_lt_zero _)⟩
        · obtain ⟨i, h1, h2⟩ := ih (by rcases List.mem_cons.1 h with h | h; exact absurd h.symm e; exact h)
          refine ⟨i + 1, h1, fun j y hj hy => ?_⟩
          cases j with
          | zero => exact (show some a = some y from hy) |> fun e2 => by rw [← Option.some.inj e2]; exact e
          | succ j => exact h2 j y (by omega) hy
    rw [plc_at hi hb]
    exact ⟨fun _ => h, fun _ => by omega⟩
  · rw [plc_none h]
    exact ⟨fun h' => absurd h' (by omega), fun h' => absurd h' h⟩
theorem plc_bf {l : List Wd} {x y : Wd} (hn : l.Nodup) (h : Bf x y l) : plc l x < plc l y := by
  obtain ⟨A, C, rfl, hy⟩ := h
  rw [List.nodup_append] at hn
  obtain ⟨_, h2, h3⟩ := hn
  rw [List.nodup_cons] at h2
  rw [plc_split (fun hx => h3 x hx x List.mem_cons_self rfl)]
  obtain ⟨P, S, rfl⟩ := List.append_of_mem hy
  have hyA : y ∉ A ++ x :: P := by
    intro hc
    rcases List.mem_append.1 hc with hc | hc
    · exact h3 y hc y (List.mem_cons_of_mem _ hy) rfl
    · rcases List.mem_cons.1 hc with rfl | hc
      · exact h2.1 hy
      · have := h2.2
        rw [List.nodup_append] at this
        exact this.2.2 y hc y List.mem_cons_self rfl
  have e : A ++ x :: (P ++ y :: S) = (A ++ x :: P) ++ y :: S := by simp
  rw [e, plc_split hyA, List.length_append, List.length_cons]
  omega
end
end Sq
end Go.Proofs.YtgpimeobkacniaaGreat
