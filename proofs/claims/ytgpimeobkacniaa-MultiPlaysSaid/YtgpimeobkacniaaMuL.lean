/-
  Plain law of chapter 24: writings that count, sorted; pairs; what is overwritten.
-/
import Derived.Test.YtgpimeobkacniaaSqO
set_option linter.unusedVariables false
set_option linter.unusedSimpArgs false
namespace Go.Proofs.Ytgpimeobkacniaa
open Go.RowKit
namespace Mu
open Oct Ids
abbrev Wd := List UInt8
/-- The order of strings. -/
abbrev bl : Wd → Wd → Bool := Op.bytesLess
theorem bl_irr : ∀ x : Wd, bl x x = false
  | [] => rfl
  | a :: x => by
    show (decide (a < a) || (a == a && bl x x)) = false
    rw [bl_irr x, decide_eq_false (by exact UInt8.lt_irrefl a)]
    simp
theorem bl_cons (a b : UInt8) (x y : Wd) : bl (a :: x) (b :: y) = true ↔ a < b ∨ (a = b ∧ bl x y = true) := by
  show (decide (a < b) || (a == b && bl x y)) = true ↔ _
  simp
theorem bl_tri : ∀ x y : Wd, bl x y = true ∨ x = y ∨ bl y x = true
  | [], [] => .inr (.inl rfl)
  | [], b :: y => .inl rfl
  | a :: x, [] => .inr (.inr rfl)
  | a :: x, b :: y => by
    rw [bl_cons, bl_cons]
    by_cases h1 : a < b
    · exact .inl (.inl h1)
    by_cases h2 : b < a
    · exact .inr (.inr (.inl h2))
    have e : a = b := by
      have h1' : ¬ a.toNat < b.toNat := fun h => h1 (UInt8.lt_iff_toNat_lt.2 h)
      have h2' : ¬ b.toNat < a.toNat := fun h => h2 (UInt8.lt_iff_toNat_lt.2 h)
      exact UInt8.toNat_inj.1 (by omega)
    subst e
    rcases bl_tri x y with h | h | h
    · exact .inl (.inr ⟨rfl, h⟩)
    · exact .inr (.inl (by rw [h]))
    · exact .inr (.inr (.inr ⟨rfl, h⟩))
theorem bl_nil (x : Wd) : bl x [] = false := by cases x <;> rfl
theorem bl_trans : ∀ x y z : Wd, bl x y = true → bl y z = true → bl x z = true
  | x, [], z, h, _ => by rw [bl_nil] at h; cases h
  | _, _ :: _, [], _, h => by cases h
  | [], _ :: _, _ :: _, _, _ => rfl
  | a :: x, b :: y, c :: z, h, h' => by
    rw [bl_cons] at h h' ⊢
    rcases h with h | ⟨rfl, h⟩ <;> rcases h' with h' | ⟨rfl, h'⟩
    · exact .inl (UInt8.lt_trans h h')
    · exact .inl h
    · exact .inl h'
    · exact .inr ⟨rfl, bl_trans x y z h h'⟩
/-- What cmp.Compare says of strings. -/
def cmpS (x y : Wd) : Int := if bl x y = true then -1 else if bl y x = true then 1 else 0
theorem cmpS_lt (x y : Wd) : cmpS x y < 0 ↔ bl x y = true := by
  unfold cmpS
  split
  · rename_i h; exact ⟨fun _ => h, fun _ => by omega⟩
  · rename_i h
    split
    · exact ⟨fun h' => absurd h' (by omega), fun h' => absurd h' h⟩
    · exact ⟨fun h' => absurd h' (by omega), fun h' => absurd h' h⟩
theorem cmpS_zero (x y : Wd) : cmpS x y = 0 ↔ x = y := by
  unfold cmpS
  constructor
  · intro h
    split at h
    · omega
    · split at h
      · omega
      · rename_i h1 h2
        rcases bl_tri x y with h3 | h3 | h3
        · exact absurd h3 h1
        · exact h3
        · exact absurd h3 h2
  · rintro rfl
    rw [bl_irr]
    simp
/-- A writing. -/
structure Wr where
  u : Wd
  hu : u.length = 32
  k : ByteArray
  v : ByteArray
/-- What cmp.Or says. -/
def orI (a b c : Int) : Int := if a ≠ 0 then a else if b ≠ 0 then b else c
def cmpW (x y : Wr) : Int := orI (IdL.cmpL x.u y.u) (cmpS x.k.toList y.k.toList) (cmpS x.v.toList y.v.toList)
theorem toList_inj {x y : ByteArray} (h : x.toList = y.toList) : x = y := by
  rw [Lib.toList_data, Lib.toList_data] at h
  cases x; cases y
  exact congrArg ByteArray.mk (Array.toList_inj.1 h)
theorem wr_eq {x y : Wr} (h1 : x.u = y.u) (h2 : x.k = y.k) (h3 : x.v = y.v) : x = y := by
  cases x; cases y
  simp only at h1 h2 h3
  subst h1; subst h2; subst h3
  rfl
def ltW (x y : Wr) : Prop := IdL.cmpL x.u y.u < 0 ∨ (x.u = y.u ∧ (bl x.k.toList y.k.toList = true ∨ (x.k = y.k ∧ bl x.v.toList y.v.toList = true)))
theorem ltW_iff (x y : Wr) : cmpW x y < 0 ↔ ltW x y := by
  unfold cmpW orI ltW
  by_cases h1 : IdL.cmpL x.u y.u = 0
  · have e1 := IdL.cmpL_zero _ _ h1
    rw [if_neg (by simpa using h1)]
    by_cases h2 : cmpS x.k.toList y.k.toList = 0
    · have e2 := toList_inj ((cmpS_zero _ _).1 h2)
      rw [if_neg (by simpa using h2), cmpS_lt]
      constructor
      · exact fun h => .inr ⟨e1, .inr ⟨e2, h⟩⟩
      · rintro (h | ⟨_, h | ⟨_, h⟩⟩)
        · omega
        · rw [e2, bl_irr] at h; cases h
        · exact h
    · rw [if_pos h2, cmpS_lt]
      constructor
      · exact fun h => .inr ⟨e1, .inl h⟩
      · rintro (h | ⟨_, h | ⟨h, _⟩⟩)
        · omega
        · exact h
        · exact absurd ((cmpS_zero _ _).2 (by rw [h])) h2
  · rw [if_pos h1]
    constructor
    · exact fun h => .inl h
    · rintro (h | ⟨h, _⟩)
      · exact h
      · exact absurd (by rw [h]; exact IdL.cmpL_refl _) h1
theorem ltW_irr (x : Wr) : ¬ ltW x x := by
  rintro (h | ⟨_, h | ⟨_, h⟩⟩)
  · exact IdL.cmpL_irr _ h
  · rw [bl_irr] at h; cases h
  · rw [bl_irr] at h; cases h
theorem ltW_trans {x y z : Wr} (h : ltW x y) (h' : ltW y z) : ltW x z := by
  rcases h with h | ⟨e, h⟩ <;> rcases h' with h' | ⟨e', h'⟩
  · exact .inl (IdL.cmpL_trans _ _ _ h h')
  · exact .inl (by rw [← e']; exact h)
  · exact .inl (by rw [e]; exact h')
  · refine .inr ⟨e.trans e', ?_⟩
    rcases h with h | ⟨e2, h⟩ <;> rcases h' with h' | ⟨e2', h'⟩
    · exact .inl (bl_trans _ _ _ h h')
    · exact .inl (by rw [← e2']; exact h)
    · exact .inl (by rw [e2]; exact h')
    · exact .inr ⟨e2.trans e2', bl_trans _ _ _ h h'⟩
theorem ltW_tri (x y : Wr) : ltW x y ∨ x = y ∨ ltW y x := by
  rcases IdL.cmpL_tri x.u y.u with h | h | h
  · exact .inl (.inl h)
  · rcases bl_tri x.k.toList y.k.toList with h2 | h2 | h2
    · exact .inl (.inr ⟨h, .inl h2⟩)
    · rcases bl_tri x.v.toList y.v.toList with h3 | h3 | h3
      · exact .inl (.inr ⟨h, .inr ⟨toList_inj h2, h3⟩⟩)
      · exact .inr (.inl (wr_eq h (toList_inj h2) (toList_inj h3)))
      · exact .inr (.inr (.inr ⟨h.symm, .inr ⟨(toList_inj h2).symm, h3⟩⟩))
    · exact .inr (.inr (.inr ⟨h.symm, .inl h2⟩))
  · exact .inr (.inr (.inl h))
/-- Pairs of a key and a value. -/
abbrev Pr := ByteArray × ByteArray
def ltP (x y : Pr) : Prop := bl x.1.toList y.1.toList = true ∨ (x.1 = y.1 ∧ bl x.2.toList y.2.toList = true)
theorem ltP_irr (x : Pr) : ¬ ltP x x := by
  rintro (h | ⟨_, h⟩)
  · rw [bl_irr] at h; cases h
  · rw [bl_irr] at h; cases h
theorem ltP_trans {x y z : Pr} (h : ltP x y) (h' : ltP y z) : ltP x z := by
  rcases h with h | ⟨e, h⟩ <;> rcases h' with h' | ⟨e', h'⟩
  · exact .inl (bl_trans _ _ _ h h')
  · exact .inl (by rw [← e']; exact h)
  · exact .inl (by rw [e]; exact h')
  · exact .inr ⟨e.trans e', bl_trans _ _ _ h h'⟩
theorem ltP_tri (x y : Pr) : ltP x y ∨ x = y ∨ ltP y x := by
  rcases bl_tri x.1.toList y.1.toList with h | h | h
  · exact .inl (.inl h)
  · rcases bl_tri x.2.toList y.2.toList with h2 | h2 | h2
    · exact .inl (.inr ⟨toList_inj h, h2⟩)
    · exact .inr (.inl (Prod.ext (toList_inj h) (toList_inj h2)))
    · exact .inr (.inr (.inr ⟨(toList_inj h).symm, h2⟩))
  · exact .inr (.inr (.inl h))
section
variable {α : Type} {r : α → α → Prop} [DecidableRel r] [DecidableEq α]
/-- Put in its place, once. -/
def insU (l : List α) (x : α) : List α := if x ∈ l then l else l.takeWhile (fun y => decide (r y x)) ++ x :: l.dropWhile (fun y => decide (r y x))
theorem mem_insU (l : List α) (x y : α) : y ∈ insU (r := r) l x ↔ y = x ∨ y ∈ l := by
  unfold insU
  split
  · rename_i h
    exact ⟨.inr, fun h' => h'.elim (fun e => e ▸ h) id⟩
  · have e : y ∈ l ↔ y ∈ l.takeWhile (fun y => decide (r y x)) ∨ y ∈ l.dropWhile (fun y => decide (r y x)) := by
      rw [← List.mem_append, List.takeWhile_append_dropWhile]
    rw [e]
    simp only [List.mem_append, List.mem_cons]
    constructor
    · rintro (h | h | h)
      · exact .inr (.inl h)
      · exact .inl h
      · exact .inr (.inr h)
    · rintro (h | h | h)
      · exact .inr (.inl h)
      · exact .inl h
      · exact .inr (.inr h)
theorem insU_srt (ht : ∀ a b c, r a b → r b c → r a c) (h3 : ∀ a b, r a b ∨ a = b ∨ r b a) : ∀ (l : List α) (x : α), l.Pairwise r → (insU (r := r) l x).Pairwise r := by
  intro l x hl
  unfold insU
  split
  · exact hl
  · rename_i hx
    induction l with
    | nil => simp
    | cons a l ih =>
      rw [List.pairwise_cons] at hl
      have hxa : x ≠ a := fun e => hx (e ▸ List.mem_cons_self)
      have hxl : x ∉ l := fun e => hx (List.mem_cons_of_mem _ e)
      by_cases hp : r a x
      · simp only [List.takeWhile_cons, List.dropWhile_cons, decide_eq_true hp, if_true, List.cons_append]
        rw [List.pairwise_cons]
        refine ⟨fun y hy => ?_, ih hl.2 hxl⟩
        rcases List.mem_append.1 hy with hy | hy
        · exact hl.1 y ((List.takeWhile_sublist _).mem hy)
        · rcases List.mem_cons.1 hy with rfl | hy
          · exact hp
          · exact hl.1 y ((List.dropWhile_sublist _).mem hy)
      · simp only [List.takeWhile_cons, List.dropWhile_cons, decide_eq_false hp, Bool.false_eq_true, if_false, List.nil_append]
        rw [List.pairwise_cons]
        have h0 : r x a := by
          rcases h3 a x with h | h | h
          · exact absurd h hp
          · exact absurd h.symm hxa
          · exact h
        refine ⟨fun y hy => ?_, by rw [List.pairwise_cons]; exact hl⟩
        rcases List.mem_cons.1 hy with rfl | hy
        · exact h0
        · exact ht _ _ _ h0 (hl.1 y hy)
def setU (l : List α) : List α := l.foldl (fun m x => insU (r := r) m x) []
theorem setU_snoc (l : List α) (x : α) : setU (r := r) (l ++ [x]) = insU (r := r) (setU (r := r) l) x := by
  unfold setU
  rw [List.foldl_append]
  rfl
theorem fold_srt (ht : ∀ a b c, r a b → r b c → r a c) (h3 : ∀ a b, r a b ∨ a = b ∨ r b a) : ∀ (l m : List α), m.Pairwise r → (l.foldl (fun m x => insU (r := r) m x) m).Pairwise r
  | [], _, h => h
  | x :: l, m, h => fold_srt ht h3 l _ (insU_srt ht h3 m x h)
theorem mem_fold : ∀ (l m : List α) (y : α), y ∈ l.foldl (fun m x => insU (r := r) m x) m ↔ y ∈ l ∨ y ∈ m
  | [], m, y => by simp
  | x :: l, m, y => by
    rw [List.foldl_cons, mem_fold l _ y, mem_insU, List.mem_cons]
    constructor
    · rintro (h | h | h)
      · exact .inl (.inr h)
      · exact .inl (.inl h)
      · exact .inr h
    · rintro ((h | h) | h)
      · exact .inr (.inl h)
      · exact .inl h
      · exact .inr (.inr h)
theorem mem_setU (l : List α) (y : α) : y ∈ setU (r := r) l ↔ y ∈ l := by
  unfold setU
  rw [mem_fold]
  simp
end
end Mu
end Go.Proofs.Ytgpimeobkacniaa
