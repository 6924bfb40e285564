/-
  Ids as lists of bytes: their order; sets of them as rising lists. Plain law. Plain law of ids: a list that does not fall, made a set by leaving out what stands twice; with, without, less, both. Ids as texts: the plain law. No program in sight.
-/
import Derived.Test.YthllhjdaknmlbaaDoorBase
set_option linter.unusedVariables false
set_option linter.unusedSimpArgs false

namespace Go.Proofs.YthllhjdaknmlbaaDoor
namespace IdL

abbrev Id := List UInt8
/-- By the bytes. -/
def cmpL : Id → Id → Int
  | [], [] => 0
  | [], _ :: _ => -1
  | _ :: _, [] => 1
  | x :: xs, y :: ys => if x.toNat < y.toNat then -1 else if y.toNat < x.toNat then 1 else cmpL xs ys
theorem cmpL_refl : ∀ a, cmpL a a = 0
  | [] => rfl
  | x :: xs => by unfold cmpL; rw [if_neg (Nat.lt_irrefl _), if_neg (Nat.lt_irrefl _)]; exact cmpL_refl xs
theorem cmpL_zero : ∀ a b, cmpL a b = 0 → a = b
  | [], [], _ => rfl
  | [], _ :: _, h => by simp [cmpL] at h
  | _ :: _, [], h => by simp [cmpL] at h
  | x :: xs, y :: ys, h => by
    unfold cmpL at h
    split at h
    · omega
    split at h
    · omega
    rename_i h1 h2
    rw [UInt8.toNat_inj.1 (by omega : x.toNat = y.toNat), cmpL_zero xs ys h]
theorem cmpL_anti : ∀ a b, cmpL b a = - cmpL a b
  | [], [] => rfl
  | [], _ :: _ => rfl
  | _ :: _, [] => rfl
  | x :: xs, y :: ys => by
    unfold cmpL
    by_cases h1 : x.toNat < y.toNat
    · rw [if_pos h1, if_neg (by omega), if_pos h1]; rfl
    · by_cases h2 : y.toNat < x.toNat
      · rw [if_pos h2, if_neg h1, if_pos h2]
      · rw [if_neg h1, if_neg h2, if_neg h2, if_neg h1]; exact cmpL_anti xs ys
theorem cmpL_trans : ∀ a b c, cmpL a b < 0 → cmpL b c < 0 → cmpL a c < 0
  | [], [], _, h, _ => by simp [cmpL] at h
  | [], _ :: _, [], _, h => by simp [cmpL] at h
  | [], _ :: _, _ :: _, _, _ => by simp [cmpL]
  | _ :: _, [], _, h, _ => by simp [cmpL] at h
  | _ :: _, _ :: _, [], _, h => by simp [cmpL] at h
  | x :: xs, y :: ys, z :: zs, h, k => by
    unfold cmpL at h k ⊢
    by_cases h1 : x.toNat < y.toNat
    · by_cases k1 : y.toNat < z.toNat
      · rw [if_pos (by omega)]; decide
      · rw [if_neg k1] at k
        by_cases k2 : z.toNat < y.toNat
        · rw [if_pos k2] at k; omega
        · rw [if_pos (by omega)]; decide
    · rw [if_neg h1] at h
      by_cases h2 : y.toNat < x.toNat
      · rw [if_pos h2] at h; omega
      · rw [if_neg h2] at h
        by_cases k1 : y.toNat < z.toNat
        · rw [if_pos (by omega)]; decide
        · rw [if_neg k1] at k
          by_cases k2 : z.toNat < y.toNat
          · rw [if_pos k2] at k; omega
          · rw [if_neg k2] at k
            rw [if_neg (by omega), if_neg (by omega)]
            exact cmpL_trans xs ys zs h k
theorem cmpL_rng : ∀ a b, cmpL a b = -1 ∨ cmpL a b = 0 ∨ cmpL a b = 1
  | [], [] => .inr (.inl rfl)
  | [], _ :: _ => .inl rfl
  | _ :: _, [] => .inr (.inr rfl)
  | x :: xs, y :: ys => by
    unfold cmpL
    split
    · exact .inl rfl
    split
    · exact .inr (.inr rfl)
    · exact cmpL_rng xs ys
theorem cmpL_irr (a : Id) : ¬ cmpL a a < 0 := by rw [cmpL_refl]; omega
theorem cmpL_tri (a b : Id) : cmpL a b < 0 ∨ a = b ∨ cmpL b a < 0 := by
  have h := cmpL_anti a b
  rcases cmpL_rng a b with e | e | e
  · left; omega
  · right; left; exact cmpL_zero a b e
  · right; right; omega
/-- It rises. -/
def Srt (l : List Id) : Prop := l.Pairwise fun a b => cmpL a b < 0
theorem srt_unique : ∀ (l m : List Id), Srt l → Srt m → (∀ x, x ∈ l ↔ x ∈ m) → l = m
  | [], [], _, _, _ => rfl
  | [], b :: m, _, _, h => absurd ((h b).2 (by simp)) (by simp)
  | a :: l, [], _, _, h => absurd ((h a).1 (by simp)) (by simp)
  | a :: l, b :: m, hl, hm, h => by
    obtain ⟨l1, l2⟩ := List.pairwise_cons.1 hl
    obtain ⟨m1, m2⟩ := List.pairwise_cons.1 hm
    have e : a = b := by
      have ha := (h a).1 (by simp)
      have hb := (h b).2 (by simp)
      rcases List.mem_cons.1 ha with ha | ha
      · exact ha
      · rcases List.mem_cons.1 hb with hb | hb
        · exact hb.symm
        · exact absurd (cmpL_trans a b a (l1 b hb) (m1 a ha)) (cmpL_irr a)
    subst e
    rw [srt_unique l m l2 m2 fun x => ⟨fun hx => ?_, fun hx => ?_⟩]
    · rcases List.mem_cons.1 ((h x).1 (by simp [hx])) with e | e
      · subst e; exact absurd (l1 x hx) (cmpL_irr x)
      · exact e
    · rcases List.mem_cons.1 ((h x).2 (by simp [hx])) with e | e
      · subst e; exact absurd (m1 x hx) (cmpL_irr x)
      · exact e
theorem srt_nodup {l : List Id} (h : Srt l) : l.Nodup := h.imp fun hab e => by subst e; exact cmpL_irr _ hab
/-- One more. -/
def withL (l : List Id) (x : Id) : List Id := if x ∈ l then l else l.takeWhile (fun y => decide (cmpL y x < 0)) ++ x :: l.dropWhile (fun y => decide (cmpL y x < 0))
theorem mem_withL (l : List Id) (x y : Id) : y ∈ withL l x ↔ y = x ∨ y ∈ l := by
  unfold withL
  split
  · rename_i h
    constructor
    · exact .inr
    · rintro (rfl | h')
      · exact h
      · exact h'
  · have e := List.takeWhile_append_dropWhile (p := fun y => decide (cmpL y x < 0)) (l := l)
    have : y ∈ l ↔ y ∈ l.takeWhile (fun y => decide (cmpL y x < 0)) ∨ y ∈ l.dropWhile (fun y => decide (cmpL y x < 0)) := by
      rw [← List.mem_append, e]
    rw [List.mem_append, List.mem_cons, this]
    constructor
    · rintro (h | h | h)
      · exact .inr (.inl h)
      · exact .inl h
      · exact .inr (.inr h)
    · rintro (h | h | h)
      · exact .inr (.inl h)
      · exact .inl h
      · exact .inr (.inr h)
theorem take_lt (x : Id) : ∀ (l : List Id), ∀ y ∈ l.takeWhile (fun y => decide (cmpL y x < 0)), cmpL y x < 0
  | [], y, h => by simp at h
  | a :: l, y, h => by
    rw [List.takeWhile_cons] at h
    split at h
    · rename_i ha
      rcases List.mem_cons.1 h with e | e
      · rw [e]; simpa using ha
      · exact take_lt x l y e
    · simp at h
theorem drop_ge (x : Id) : ∀ (l : List Id), Srt l → x ∉ l → ∀ y ∈ l.dropWhile (fun y => decide (cmpL y x < 0)), cmpL x y < 0
  | [], _, _, y, h => by simp at h
  | a :: l, hl, hx, y, h => by
    obtain ⟨l1, l2⟩ := List.pairwise_cons.1 hl
    rw [List.dropWhile_cons] at h
    split at h
    · exact drop_ge x l l2 (fun e => hx (by simp [e])) y h
    · rename_i ha
      have ha' : ¬ cmpL a x < 0 := by simpa using ha
      have hxa : cmpL x a < 0 := by
        rcases cmpL_tri x a with e | e | e
        · exact e
        · exact absurd (by simp [e] : x ∈ a :: l) hx
        · exact absurd e ha'
      rcases List.mem_cons.1 h with e | e
      · rw [e]; exact hxa
      · exact cmpL_trans _ _ _ hxa (l1 y e)
theorem withL_srt {l : List Id} (h : Srt l) (x : Id) : Srt (withL l x) := by
  unfold withL
  split
  · exact h
  · rename_i hx
    have h1 : (l.takeWhile fun y => decide (cmpL y x < 0)).Sublist l := List.takeWhile_sublist _
    have h2 : (l.dropWhile fun y => decide (cmpL y x < 0)).Sublist l := List.dropWhile_sublist _
    refine List.pairwise_append.2 ⟨h.sublist h1, List.pairwise_cons.2 ⟨drop_ge x l h hx, h.sublist h2⟩, fun a ha b hb => ?_⟩
    have ha' := take_lt x l a ha
    rcases List.mem_cons.1 hb with e | e
    · rw [e]; exact ha'
    · exact cmpL_trans _ _ _ ha' (drop_ge x l h hx b e)
/-- A list as a set. -/
def setL (l : List Id) : List Id := l.foldl withL []
theorem fold_srt : ∀ (l m : List Id), Srt m → Srt (l.foldl withL m)
  | [], _, h => h
  | x :: l, m, h => fold_srt l (withL m x) (withL_srt h x)
theorem mem_fold : ∀ (l m : List Id) (y : Id), y ∈ l.foldl withL m ↔ y ∈ l ∨ y ∈ m
  | [], m, y => by simp
  | x :: l, m, y => by
    rw [List.foldl_cons, mem_fold l (withL m x) y, mem_withL, List.mem_cons]
    constructor
    · rintro (h | h | h)
      · exact .inl (.inr h)
      · exact .inl (.inl h)
      · exact .inr h
    · rintro ((h | h) | h)
      · exact .inr (.inl h)
      · exact .inl h
      · exact .inr (.inr h)
theorem setL_srt (l : List Id) : Srt (setL l) := fold_srt l [] List.Pairwise.nil
theorem mem_setL (l : List Id) (y : Id) : y ∈ setL l ↔ y ∈ l := by unfold setL; rw [mem_fold]; simp
theorem setL_of {l m : List Id} (h : Srt m) (hm : ∀ x, x ∈ m ↔ x ∈ l) : m = setL l := srt_unique m (setL l) h (setL_srt l) fun x => by rw [hm, mem_setL]
theorem setL_self {l : List Id} (h : Srt l) : setL l = l := (setL_of h fun _ => Iff.rfl).symm
theorem srt_iff (l : List Id) : setL l = l ↔ Srt l := ⟨fun h => by rw [← h]; exact setL_srt l, setL_self⟩
theorem setL_snoc (l : List Id) (x : Id) : setL (l ++ [x]) = withL (setL l) x := by unfold setL; rw [List.foldl_append]; rfl
theorem setL_app (l m : List Id) : setL (l ++ m) = m.foldl withL (setL l) := by unfold setL; rw [List.foldl_append]
theorem setL_congr {l m : List Id} (h : ∀ x, x ∈ l ↔ x ∈ m) : setL l = setL m := setL_of (setL_srt l) fun x => by rw [mem_setL, h]
theorem len_32 {l : List Id} (h : ∀ x ∈ l, x.length = 32) : ∀ x ∈ setL l, x.length = 32 := fun x hx => h x ((mem_setL l x).1 hx)
theorem setL_len (l : List Id) : (setL l).length ≤ l.length := by
  have : (setL l).length ≤ l.length := by
    have key : ∀ (l m : List Id), (l.foldl withL m).length ≤ l.length + m.length := by
      intro l
      induction l with
      | nil => intro m; simp
      | cons x l ih =>
        intro m
        rw [List.foldl_cons]
        refine Nat.le_trans (ih (withL m x)) ?_
        have : (withL m x).length ≤ m.length + 1 := by
          unfold withL
          split
          · omega
          · have e := congrArg List.length (List.takeWhile_append_dropWhile (p := fun y => decide (cmpL y x < 0)) (l := m))
            rw [List.length_append] at e
            rw [List.length_append, List.length_cons]
            omega
        rw [List.length_cons]
        omega
    exact key l []
  exact this
/-- Neighbours rise: it rises. -/
theorem srt_chain : ∀ (l : List Id), (∀ i a b, l[i]? = some a → l[i + 1]? = some b → cmpL a b < 0) → Srt l
  | [], _ => List.Pairwise.nil
  | [a], _ => List.pairwise_cons.2 ⟨by simp, List.Pairwise.nil⟩
  | a :: b :: l, h => by
    have ih := srt_chain (b :: l) fun i x y hx hy => h (i + 1) x y (by simpa using hx) (by simpa using hy)
    obtain ⟨i1, _⟩ := List.pairwise_cons.1 ih
    have hab := h 0 a b rfl rfl
    refine List.pairwise_cons.2 ⟨fun y hy => ?_, ih⟩
    rcases List.mem_cons.1 hy with e | e
    · rw [e]; exact hab
    · exact cmpL_trans _ _ _ hab (i1 y e)
theorem srt_next {l : List Id} (h : Srt l) {i : Nat} {a b : Id} (ha : l[i]? = some a) (hb : l[i + 1]? = some b) : cmpL a b < 0 := by
  obtain ⟨h1, rfl⟩ := List.getElem?_eq_some_iff.1 ha
  obtain ⟨h2, rfl⟩ := List.getElem?_eq_some_iff.1 hb
  exact List.pairwise_iff_getElem.1 h i (i + 1) h1 h2 (by omega)
end IdL
end Go.Proofs.YthllhjdaknmlbaaDoor


namespace Go.Proofs.YthllhjdaknmlbaaDoor
namespace IdL
/-- It does not fall. -/
def Weak (l : List Id) : Prop := ∀ (i j : Nat) (a b : Id), i < j → l[i]? = some a → l[j]? = some b → ¬ cmpL b a < 0
theorem take_snoc {l : List Id} {j : Nat} {x : Id} (hx : l[j]? = some x) : l.take (j + 1) = l.take j ++ [x] := by rw [List.take_add_one, hx]; rfl
theorem setL_same {l : List Id} {j : Nat} {x : Id} (hx : l[j]? = some x) (hm : x ∈ l.take j) : setL (l.take (j + 1)) = setL (l.take j) := by
  rw [take_snoc hx, setL_snoc]
  unfold withL
  rw [if_pos ((mem_setL _ _).2 hm)]
theorem setL_last {l : List Id} {x : Id} (h : ∀ y ∈ l, cmpL y x < 0) : setL (l ++ [x]) = setL l ++ [x] := by
  refine (setL_of ?_ fun y => ?_).symm
  · refine List.pairwise_append.2 ⟨setL_srt l, List.pairwise_cons.2 ⟨by simp, List.Pairwise.nil⟩, fun a ha b hb => ?_⟩
    rw [List.mem_singleton.1 hb]
    exact h a ((mem_setL l a).1 ha)
  · simp [mem_setL]
theorem weak_lt {l : List Id} (hw : Weak l) {j : Nat} {x y : Id} (hx : l[j + 1]? = some x) (hy : l[j]? = some y) (hne : x ≠ y) : ∀ z ∈ l.take (j + 1), cmpL z x < 0 := by
  intro z hz
  obtain ⟨i, hi, hzi⟩ := List.getElem_of_mem hz
  have hi' : i < j + 1 := by rw [List.length_take] at hi; omega
  have hz' : l[i]? = some z := by
    have := List.getElem?_eq_getElem hi
    rw [hzi, List.getElem?_take, if_pos hi'] at this
    exact this
  have h1 := hw i (j + 1) z x hi' hz' hx
  rcases cmpL_tri z x with e | e | e
  · exact e
  · subst e
    have h2 := hw j (j + 1) y z (by omega) hy hx
    by_cases hij : i = j
    · subst hij
      rw [hz'] at hy
      exact absurd (Option.some.inj hy) hne
    · have h3 := hw i j z y (by omega) hz' hy
      rcases cmpL_tri z y with e | e | e
      · exact absurd e h2
      · exact absurd e hne
      · exact absurd e h3
  · exact absurd e h1
theorem setL_new {l : List Id} (hw : Weak l) {j : Nat} {x y : Id} (hx : l[j + 1]? = some x) (hy : l[j]? = some y) (hne : x ≠ y) : setL (l.take (j + 2)) = setL (l.take (j + 1)) ++ [x] := by
  rw [take_snoc hx]
  exact setL_last (weak_lt hw hx hy hne)
theorem mem_take_at {l : List Id} {j : Nat} {y : Id} (hy : l[j]? = some y) : y ∈ l.take (j + 1) := by
  rw [take_snoc hy]; simp
theorem setL_rep {l : List Id} {j : Nat} {x y : Id} (hx : l[j + 1]? = some x) (hy : l[j]? = some y) (he : x = y) : setL (l.take (j + 2)) = setL (l.take (j + 1)) := setL_same hx (by rw [he]; exact mem_take_at hy)
theorem setL_take1 (l : List Id) (h : 0 < l.length) : setL (l.take 1) = l.take 1 := by
  cases l with
  | nil => simp at h
  | cons a l => rfl
theorem filter_srt {l : List Id} (h : Srt l) (p : Id → Bool) : Srt (l.filter p) := h.sublist List.filter_sublist
/-- But one. -/
def butL (l : List Id) (x : Id) : List Id := l.filter fun y => !(y == x)
/-- Those of the first alone. -/
def lessL (l m : List Id) : List Id := (setL l).filter fun y => !(decide (y ∈ m))
theorem mem_butL (l : List Id) (x y : Id) : y ∈ butL l x ↔ y ∈ l ∧ y ≠ x := by unfold butL; simp
theorem mem_lessL (l m : List Id) (y : Id) : y ∈ lessL l m ↔ y ∈ l ∧ y ∉ m := by unfold lessL; simp [mem_setL]
theorem lessL_srt (l m : List Id) : Srt (lessL l m) := filter_srt (setL_srt l) _
/-- Taken away, put in. -/
theorem put_back {l : List Id} {x : Id} (h : x ∈ l) : setL (butL (setL l) x ++ [x]) = setL l := setL_congr fun y => by
  rw [List.mem_append, mem_butL, mem_setL, List.mem_singleton]
  constructor
  · rintro (⟨h1, _⟩ | rfl)
    · exact h1
    · exact h
  · intro hy
    by_cases e : y = x
    · exact .inr e
    · exact .inl ⟨hy, e⟩
/-- Put in, taken away. -/
theorem take_away {l : List Id} {x : Id} (h : x ∉ l) : butL (setL (l ++ [x])) x = setL l := setL_of (filter_srt (setL_srt _) _) fun y => by
  have := mem_butL (setL (l ++ [x])) x y
  rw [this, mem_setL, List.mem_append, List.mem_singleton]
  constructor
  · rintro ⟨h1 | h1, h2⟩
    · exact h1
    · exact absurd h1 h2
  · intro hy
    exact ⟨.inl hy, fun e => h (e ▸ hy)⟩
theorem but_set (l : List Id) (x : Id) : butL (setL (setL l)) x = butL (setL l) x := by rw [setL_self (setL_srt l)]
theorem less_both (l m : List Id) : setL (lessL l m ++ m) = setL (l ++ m) := setL_congr fun y => by
  rw [List.mem_append, List.mem_append, mem_lessL]
  constructor
  · rintro (⟨h, _⟩ | h)
    · exact .inl h
    · exact .inr h
  · rintro (h | h)
    · by_cases e : y ∈ m
      · exact .inr e
      · exact .inl ⟨h, e⟩
    · exact .inr h
theorem nodup_len : ∀ (l m : List Id), l.Nodup → m.Nodup → (∀ x, x ∈ l ↔ x ∈ m) → l.length = m.length := fun l m h1 h2 h =>
  ((List.perm_ext_iff_of_nodup h1 h2).2 h).length_eq
theorem less_len (l m : List Id) : (setL (lessL l m ++ lessL m l)).length = (lessL l m).length + (lessL m l).length := by
  rw [← List.length_append]
  refine nodup_len _ _ (srt_nodup (setL_srt _)) ?_ fun x => mem_setL _ x
  refine List.nodup_append.2 ⟨srt_nodup (lessL_srt l m), srt_nodup (lessL_srt m l), fun a ha b hb e => ?_⟩
  subst e
  exact ((mem_lessL l m a).1 ha).2 ((mem_lessL m l a).1 hb).1
end IdL
end Go.Proofs.YthllhjdaknmlbaaDoor


namespace Go.Proofs.YthllhjdaknmlbaaDoor
namespace Hex
/-- The sign of a number below 16. -/
def dig (n : Nat) : UInt8 := UInt8.ofNat (if n < 10 then 48 + n else 87 + n)
/-- A sign's number; 16: it has none. -/
def sg (c : UInt8) : Nat := if 48 ≤ c.toNat ∧ c.toNat ≤ 57 then c.toNat - 48 else if 97 ≤ c.toNat ∧ c.toNat ≤ 102 then c.toNat - 87 else 16
/-- An id as a text. -/
def txt (x : List UInt8) : List UInt8 := x.flatMap fun c => [dig (c.toNat / 16), dig (c.toNat % 16)]
def hi (s : List UInt8) (k : Nat) : UInt8 := s.getD (2 * k) 0
def lo (s : List UInt8) (k : Nat) : UInt8 := s.getD (2 * k + 1) 0
def okB (s : List UInt8) (i : Nat) : Bool := (List.range i).all fun k => decide (sg (hi s k) < 16) && decide (sg (lo s k) < 16)
def val (s : List UInt8) (i : Nat) : List UInt8 := (List.range i).map fun k => UInt8.ofNat (16 * sg (hi s k) + sg (lo s k))
/-- The id of a text, and why there is none. -/
def parse (s : List UInt8) : List UInt8 × Int := if s.length = 64 ∧ okB s 32 = true then (val s 32, 0) else (List.replicate 32 0, 4)
theorem sg_dig : ∀ n, n < 16 → sg (dig n) = n := by decide
theorem dig_sg_nat : ∀ n, n < 256 → sg (UInt8.ofNat n) < 16 → dig (sg (UInt8.ofNat n)) = UInt8.ofNat n := by decide +kernel
theorem dig_sg (c : UInt8) (h : sg c < 16) : dig (sg c) = c := by
  have e : UInt8.ofNat c.toNat = c := by simp
  have := dig_sg_nat c.toNat c.toNat_lt
  rw [e] at this
  exact this h
theorem okB_succ (s : List UInt8) (i : Nat) : okB s (i + 1) = (okB s i && (decide (sg (hi s i) < 16) && decide (sg (lo s i) < 16))) := by
  unfold okB
  rw [List.range_succ, List.all_append]
  simp
theorem okB_bad (s : List UInt8) (k : Nat) (h : ¬ (sg (hi s k) < 16 ∧ sg (lo s k) < 16)) (n : Nat) (hn : k < n) : okB s n = false := by
  unfold okB
  rw [List.all_eq_false]
  refine ⟨k, List.mem_range.2 hn, ?_⟩
  simpa using h
theorem val_succ (s : List UInt8) (i : Nat) : val s (i + 1) = val s i ++ [UInt8.ofNat (16 * sg (hi s i) + sg (lo s i))] := by
  unfold val
  rw [List.range_succ, List.map_append]
  rfl
theorem val_len (s : List UInt8) (i : Nat) : (val s i).length = i := by simp [val]
theorem txt_len (x : List UInt8) : (txt x).length = 2 * x.length := by
  induction x with
  | nil => rfl
  | cons a x ih => unfold txt at *; rw [List.flatMap_cons, List.length_append, ih]; simp; omega
theorem txt_cons (a : UInt8) (x : List UInt8) : txt (a :: x) = dig (a.toNat / 16) :: dig (a.toNat % 16) :: txt x := rfl
theorem txt_snoc (x : List UInt8) (a : UInt8) : txt (x ++ [a]) = txt x ++ [dig (a.toNat / 16), dig (a.toNat % 16)] := by
  unfold txt; rw [List.flatMap_append]; rfl
theorem hi_cons (a b : UInt8) (s : List UInt8) (k : Nat) : hi (a :: b :: s) (k + 1) = hi s k ∧ lo (a :: b :: s) (k + 1) = lo s k := by
  unfold hi lo
  rw [show 2 * (k + 1) = 2 * k + 1 + 1 by omega]
  exact ⟨by simp, by simp⟩
theorem back (a : UInt8) : sg (dig (a.toNat / 16)) = a.toNat / 16 ∧ sg (dig (a.toNat % 16)) = a.toNat % 16 := by
  have := a.toNat_lt
  exact ⟨sg_dig _ (by omega), sg_dig _ (by omega)⟩
theorem txt_at : ∀ (x : List UInt8) (k : Nat) (a : UInt8), x[k]? = some a → hi (txt x) k = dig (a.toNat / 16) ∧ lo (txt x) k = dig (a.toNat % 16)
  | [], _, _, h => by simp at h
  | y :: x, 0, a, h => by
    simp at h; subst h
    exact ⟨rfl, rfl⟩
  | y :: x, k + 1, a, h => by
    rw [txt_cons, (hi_cons _ _ _ _).1, (hi_cons _ _ _ _).2]
    exact txt_at x k a (by simpa using h)
theorem okB_txt (x : List UInt8) : ∀ i, i ≤ x.length → okB (txt x) i = true
  | 0, _ => rfl
  | i + 1, h => by
    obtain ⟨h1, h2⟩ := txt_at x i x[i] (List.getElem?_eq_getElem (by omega))
    have := (x[i]).toNat_lt
    rw [okB_succ, okB_txt x i (by omega), h1, h2, (back _).1, (back _).2]
    simp; omega
theorem val_txt (x : List UInt8) : ∀ i, i ≤ x.length → val (txt x) i = x.take i
  | 0, _ => rfl
  | i + 1, h => by
    obtain ⟨h1, h2⟩ := txt_at x i x[i] (List.getElem?_eq_getElem (by omega))
    have e : 16 * (x[i].toNat / 16) + x[i].toNat % 16 = x[i].toNat := by omega
    rw [val_succ, val_txt x i (by omega), h1, h2, (back _).1, (back _).2, e, List.take_succ_eq_append_getElem (by omega)]
    simp
theorem parse_txt {x : List UInt8} (h : x.length = 32) : parse (txt x) = (x, 0) := by
  unfold parse
  rw [if_pos ⟨by rw [txt_len, h], okB_txt x 32 (by omega)⟩, val_txt x 32 (by omega), List.take_of_length_le (by omega)]
theorem txt_val {s : List UInt8} (h : s.length = 64) : ∀ i, i ≤ 32 → okB s i = true → txt (val s i) = s.take (2 * i)
  | 0, _, _ => by simp [val, txt]
  | i + 1, hi', ho => by
    rw [okB_succ] at ho
    simp only [Bool.and_eq_true, decide_eq_true_eq] at ho
    obtain ⟨h0, h1, h2⟩ := ho
    have e1 : (UInt8.ofNat (16 * sg (hi s i) + sg (lo s i))).toNat = 16 * sg (hi s i) + sg (lo s i) := by simp; omega
    rw [val_succ, txt_snoc, txt_val h i (by omega) h0, e1, show (16 * sg (hi s i) + sg (lo s i)) / 16 = sg (hi s i) by omega, show (16 * sg (hi s i) + sg (lo s i)) % 16 = sg (lo s i) by omega, dig_sg _ h1, dig_sg _ h2]
    have ea : hi s i = s[2 * i] := by unfold hi; rw [List.getD_eq_getElem?_getD, List.getElem?_eq_getElem (by omega)]; rfl
    have eb : lo s i = s[2 * i + 1] := by unfold lo; rw [List.getD_eq_getElem?_getD, List.getElem?_eq_getElem (by omega)]; rfl
    rw [ea, eb, show 2 * (i + 1) = 2 * i + 1 + 1 by omega, List.take_succ_eq_append_getElem (i := 2 * i + 1) (by omega), List.take_succ_eq_append_getElem (i := 2 * i) (by omega), List.append_assoc]
    rfl
theorem txt_parse {s : List UInt8} (h : (parse s).2 = 0) : txt (parse s).1 = s := by
  unfold parse at *
  by_cases hc : s.length = 64 ∧ okB s 32 = true
  · rw [if_pos hc, txt_val hc.1 32 (by omega) hc.2, List.take_of_length_le (by omega)]
  · rw [if_neg hc] at h; simp at h
theorem parse_len (s : List UInt8) : (parse s).1.length = 32 := by
  unfold parse
  by_cases hc : s.length = 64 ∧ okB s 32 = true
  · rw [if_pos hc]; exact val_len s 32
  · rw [if_neg hc]; simp
theorem parse_err (s : List UInt8) : (parse s).2 = 0 ∨ (parse s).2 = 4 := by
  unfold parse
  by_cases hc : s.length = 64 ∧ okB s 32 = true
  · rw [if_pos hc]; exact .inl rfl
  · rw [if_neg hc]; exact .inr rfl
end Hex
end Go.Proofs.YthllhjdaknmlbaaDoor
