/-
  Plain law: what both sides read; why it is none; put and read.
-/
import Derived.Test.YtgpimeobkacniaaSqB
set_option linter.unusedVariables false
set_option linter.unusedSimpArgs false
namespace Go.Proofs.Ytgpimeobkacniaa
open Go.RowKit
namespace Sq
open Oct Ids Seg
open OctRd (be_len)
open Ref (endv)
/-- Where a reading, one by one, ends. -/
structure Til {α : Type} (f : Nat → List α × Nat × Int) (n k : Nat) : Prop where
  le : k ≤ n
  good : ∀ j, j < k → (f j).2.2 = 0
  stop : k = n ∨ (f k).2.2 ≠ 0
theorem Til.uniq {α : Type} {f : Nat → List α × Nat × Int} {n k k' : Nat} (h : Til f n k) (h' : Til f n k') : k = k' := by
  rcases Nat.lt_trichotomy k k' with hlt | he | hlt
  · rcases h.stop with e | e
    · have := h'.le; omega
    · exact absurd (h'.good k hlt) e
  · exact he
  · rcases h'.stop with e | e
    · have := h.le; omega
    · exact absurd (h.good k' hlt) e
theorem flat32 : ∀ l : List Wd, (∀ x ∈ l, x.length = 32) → l.flatten.length = 32 * l.length
  | [], _ => rfl
  | x :: l, h => by
    have h1 := flat32 l (fun y hy => h y (List.mem_cons_of_mem _ hy))
    have h2 := h x List.mem_cons_self
    rw [List.flatten_cons, List.length_append, List.length_cons, h1, h2]
    omega
theorem rdL_bound {s : ByteArray} {a : Nat} {b : Int} {k : Nat} (ha : a ≤ s.size) (hg : ∀ j, j ≤ k → (rdL s a b j).2.2 = 0) : 69 * k ≤ s.size := by
  have hb : b = 0 := hg 0 (Nat.zero_le _)
  subst hb
  have := (rdL_ok s a ha k (hg k (Nat.le_refl _))).2
  omega
theorem ids_bound {s : ByteArray} {a : Nat} {b : Int} {k : Nat} (ha : a ≤ s.size) (hg : ∀ j, j ≤ k → (rdIds s a b j).2.2 = 0) : 32 * k ≤ s.size := by
  have hb : b = 0 := hg 0 (Nat.zero_le _)
  subst hb
  have h1 := (ids_ok s a ha k (hg k (Nat.le_refl _))).1
  have h2 := congrArg List.length h1
  rw [dr_len, List.length_append, flat32 _ (ids_each s a 0 k), rdIds_len] at h2
  omega
/-- All that is read. -/
structure RdA (s : ByteArray) (L : List Dn) (G : List Wd) (a : Nat) (b : Int) : Prop where
  ex : ∃ n a1 b1 k a2 b2 m a3 b3 j, rnum s 0 0 4 = (n, a1, b1) ∧ Til (rdL s a1 b1) n k ∧ rdL s a1 b1 k = (L, a2, b2) ∧ rnum s a2 b2 4 = (m, a3, b3) ∧ Til (rdIds s a3 b3) m j ∧ rdIds s a3 b3 j = (G, a, b)
theorem RdA.uniq {s : ByteArray} {L L' : List Dn} {G G' : List Wd} {a a' : Nat} {b b' : Int} (h : RdA s L G a b) (h' : RdA s L' G' a' b') : L = L' ∧ G = G' ∧ a = a' ∧ b = b' := by
  obtain ⟨n, a1, b1, k, a2, b2, m, a3, b3, j, h1, h2, h3, h4, h5, h6⟩ := h
  obtain ⟨n', a1', b1', k', a2', b2', m', a3', b3', j', g1, g2, g3, g4, g5, g6⟩ := h'
  rw [h1] at g1
  cases g1
  obtain rfl := h2.uniq g2
  rw [h3] at g3
  cases g3
  rw [h4] at g4
  cases g4
  obtain rfl := h5.uniq g5
  rw [h6] at g6
  cases g6
  exact ⟨rfl, rfl, rfl, rfl⟩
def badD (d : Dn) : Bool := decide (chk d.u d.x ≠ 0)
def Fine (s : ByteArray) (L : List Dn) (G : List Wd) (a : Nat) : Prop := endv s a 0 = 0 ∧ IdL.Srt (L.map (·.u)) ∧ IdL.Srt G
/-- Why it is none; 0: it is one. -/
def LdV (s : ByteArray) (L : List Dn) (G : List Wd) (a : Nat) (b v : Int) : Prop :=
  (b ≠ 0 ∧ v = b) ∨ (b = 0 ∧ ((∃ d, L.find? badD = some d ∧ v = chk d.u d.x) ∨ (L.find? badD = none ∧ ((v = 0 ∧ Fine s L G a) ∨ (v = 4 ∧ ¬ Fine s L G a)))))
theorem LdV.uniq {s : ByteArray} {L : List Dn} {G : List Wd} {a : Nat} {b v v' : Int} (h : LdV s L G a b v) (h' : LdV s L G a b v') : v = v' := by
  rcases h with ⟨h1, h2⟩ | ⟨h1, h2⟩ <;> rcases h' with ⟨g1, g2⟩ | ⟨g1, g2⟩
  · rw [h2, g2]
  · exact absurd g1 h1
  · exact absurd h1 g1
  · rcases h2 with ⟨d, h3, h4⟩ | ⟨h3, h4⟩ <;> rcases g2 with ⟨d', g3, g4⟩ | ⟨g3, g4⟩
    · rw [h3] at g3
      cases g3
      rw [h4, g4]
    · rw [h3] at g3; cases g3
    · rw [h3] at g3; cases g3
    · rcases h4 with ⟨h5, h6⟩ | ⟨h5, h6⟩ <;> rcases g4 with ⟨g5, g6⟩ | ⟨g5, g6⟩
      · rw [h5, g5]
      · exact absurd h6 g6
      · exact absurd g6 h6
      · rw [h5, g5]
theorem bad_none {L : List Dn} : L.find? badD = none ↔ ∀ d ∈ L, chk d.u d.x = 0 := by
  rw [List.find?_eq_none]
  unfold badD
  simp
theorem bad_at {L : List Dn} {k : Nat} {d : Dn} (hd : L[k]? = some d) (h : ∀ e ∈ L.take k, chk e.u e.x = 0) (hb : chk d.u d.x ≠ 0) : L.find? badD = some d := by
  obtain ⟨hlt, he⟩ := List.getElem?_eq_some_iff.1 hd
  have e : L = L.take k ++ d :: L.drop (k + 1) := by
    rw [← he, List.getElem_cons_drop, List.take_append_drop]
  rw [e, List.find?_append, bad_none.2 h]
  simp [badD, hb]
theorem LdV.zero {s : ByteArray} {L : List Dn} {G : List Wd} {a : Nat} {b : Int} (h : LdV s L G a b 0) : b = 0 ∧ (∀ d ∈ L, chk d.u d.x = 0) ∧ Fine s L G a := by
  rcases h with ⟨h1, h2⟩ | ⟨h1, ⟨d, h3, h4⟩ | ⟨h3, ⟨_, h4⟩ | ⟨h4, _⟩⟩⟩
  · exact absurd h2.symm h1
  · have := List.find?_some h3
    unfold badD at this
    simp only [decide_eq_true_eq] at this
    exact absurd h4.symm this
  · exact ⟨h1, bad_none.1 h3, h4⟩
  · cases h4
theorem dr_zero (s : ByteArray) : dr s 0 = s.data.toList := by unfold dr; rfl
/-- What is read, put again. -/
theorem put_of_rd {s : ByteArray} {L : List Dn} {G : List Wd} {a : Nat} {b : Int} (h : RdA s L G a b) (hz : LdV s L G a b 0) : (⟨(putB L G).toArray⟩ : ByteArray) = s := by
  obtain ⟨rfl, _, hf, _, _⟩ := hz.zero
  obtain ⟨n, a1, b1, k, a2, b2, m, a3, b3, j, h1, h2, h3, h4, h5, h6⟩ := h
  have e3 : b3 = 0 := Classical.byContradiction fun hb => by
    have := ids_stuck s a3 b3 hb j
    rw [h6] at this
    exact hb this.symm
  subst e3
  have e2 : b2 = 0 := Classical.byContradiction fun hb => hb (num_stuck h4 hb).2.2.symm
  subst e2
  have e1 : b1 = 0 := Classical.byContradiction fun hb => by
    have hs : ∀ k, (rdL s a1 b1 k).2.2 = b1 := fun k => by
      induction k with
      | zero => rfl
      | succ k ih =>
        show (rd1 s (rdL s a1 b1 k).2.1 (rdL s a1 b1 k).2.2).2.2 = b1
        rw [ih]
        exact rd1_stuck hb
    have := hs k
    rw [h3] at this
    exact hb this.symm
  subst e1
  obtain ⟨d1, l1⟩ := num_ok (k := 4) (m := 4) (by decide) (by decide) h1 (Nat.zero_le _)
  have h3' : (rdL s a1 0 k).2.2 = 0 := by rw [h3]
  obtain ⟨d2, l2, _⟩ := rdL_ok s a1 l1 k h3'
  rw [h3] at d2 l2
  obtain ⟨d3, l3⟩ := num_ok (k := 4) (m := 4) (by decide) (by decide) h4 l2
  have h6' : (rdIds s a3 0 j).2.2 = 0 := by rw [h6]
  obtain ⟨d4, l4⟩ := ids_ok s a3 l3 j h6'
  rw [h6] at d4 l4
  obtain ⟨e5, _⟩ := end_ok hf
  have kn : k = n := h2.stop.resolve_right (fun hc => hc h3')
  have jm : j = m := h5.stop.resolve_right (fun hc => hc h6')
  have kl : L.length = k := by have := rdL_len s a1 0 k; rwa [h3] at this
  have jl : G.length = j := by have := rdIds_len s a3 0 j; rwa [h6] at this
  simp only at d2 d3 d4
  rw [dr_zero, d2, d3, d4, e5, dr_end] at d1
  have : s = ⟨s.data.toList.toArray⟩ := by simp
  rw [this, d1]
  unfold putB
  rw [kl, jl, kn, jm]
  simp
theorem rdL_seg {T : ByteArray} {a : Nat} (hle : a ≤ T.size) : ∀ (X : List Dn) (r : List UInt8), (∀ d ∈ X, chk d.u d.x = 0) → dr T a = X.flatMap nodeB ++ r → ∀ k, k ≤ X.length → ∃ p, rdL T a 0 k = (X.take k, p, 0) ∧ dr T p = (X.drop k).flatMap nodeB ++ r ∧ p ≤ T.size := by
  intro X r hX h k
  induction k with
  | zero => exact fun _ => ⟨a, rfl, h, hle⟩
  | succ k ih =>
    intro hk
    obtain ⟨p, h1, h2, h3⟩ := ih (by omega)
    have hd : X[k]? = some X[k] := List.getElem?_eq_getElem (by omega)
    have hck := chk_ok (hX X[k] (List.getElem_mem _))
    rw [List.drop_eq_getElem_cons (by omega : k < X.length), List.flatMap_cons, List.append_assoc] at h2
    obtain ⟨g1, g2, g3⟩ := rd1_seg h2 (by omega) (by omega) (by omega) h3
    refine ⟨_, ?_, g2, g3⟩
    show ((rdL T a 0 k).1 ++ [(rd1 T (rdL T a 0 k).2.1 (rdL T a 0 k).2.2).1], (rd1 T (rdL T a 0 k).2.1 (rdL T a 0 k).2.2).2) = _
    rw [h1]
    simp only
    rw [g1, List.take_add_one, hd]
    rfl
/-- What is put, read. -/
theorem rd_of_put {X : List Dn} {G : List Wd} (hX : ∀ d ∈ X, chk d.u d.x = 0) (hG : ∀ u ∈ G, u.length = 32) (hXl : X.length ≤ 1000) (hGl : G.length ≤ 1000) : RdA ⟨(putB X G).toArray⟩ X G (⟨(putB X G).toArray⟩ : ByteArray).size 0 := by
  obtain ⟨T, hT⟩ : ∃ T : ByteArray, (⟨(putB X G).toArray⟩ : ByteArray) = T := ⟨_, rfl⟩
  rw [hT]
  have h0 : dr T 0 = be 4 X.length ++ (X.flatMap nodeB ++ (be 4 G.length ++ (G.flatten ++ []))) := by
    rw [dr_zero, ← hT]
    simp [putB, List.append_assoc]
  obtain ⟨e1, g1, l1⟩ := num_seg (m := 4) (k := 4) h0 (by decide) (by decide) (by omega) (by omega) (Nat.zero_le _)
  obtain ⟨p, e2, g2, l2⟩ := rdL_seg l1 X _ hX g1 X.length (Nat.le_refl _)
  rw [List.drop_length, List.flatMap_nil, List.nil_append] at g2
  obtain ⟨e3, g3, l3⟩ := num_seg (m := 4) (k := 4) g2 (by decide) (by decide) (by omega) (by omega) l2
  obtain ⟨e4, g4, l4⟩ := ids_seg l3 G [] hG g3 G.length (Nat.le_refl _)
  have hend : p + 4 + 32 * G.length = T.size := by
    have := congrArg List.length g4
    rw [dr_len] at this
    simp at this
    omega
  rw [show ((X.length : Nat) : Int).toNat = X.length from rfl] at e1
  rw [show ((G.length : Nat) : Int).toNat = G.length from rfl] at e3
  refine ⟨X.length, _, 0, X.length, p, 0, G.length, p + 4, 0, G.length, e1, ⟨Nat.le_refl _, fun j hj => ?_, .inl rfl⟩, by rw [e2, List.take_length], e3, ⟨Nat.le_refl _, fun j hj => ?_, .inl rfl⟩, by rw [e4, List.take_length, hend]⟩
  · obtain ⟨p', h', _⟩ := rdL_seg l1 X _ hX g1 j (by omega)
    rw [h']
  · have := (ids_seg l3 G [] hG g3 j (by omega)).1
    rw [this]
theorem fine_put {X : List Dn} {G : List Wd} {s : ByteArray} (h1 : IdL.Srt (X.map (·.u))) (h2 : IdL.Srt G) (hX : ∀ d ∈ X, chk d.u d.x = 0) : LdV s X G s.size 0 0 :=
  .inr ⟨rfl, .inr ⟨bad_none.2 hX, .inl ⟨rfl, by unfold endv; simp, h1, h2⟩⟩⟩
theorem RdA.bound {s : ByteArray} {L : List Dn} {G : List Wd} {a : Nat} {b : Int} (h : RdA s L G a b) (hs : s.size ≤ 30000) : L.length ≤ 500 ∧ G.length ≤ 950 := by
  obtain ⟨n, a1, b1, k, a2, b2, m, a3, b3, j, h1, h2, h3, h4, h5, h6⟩ := h
  have kl : L.length = k := by have := rdL_len s a1 b1 k; rwa [h3] at this
  have jl : G.length = j := by have := rdIds_len s a3 b3 j; rwa [h6] at this
  have step : ∀ {a : Nat} {b : Int}, (b = 0 → a ≤ s.size) → ∀ {x : Nat × Nat × Int}, rnum s a b 4 = x → (x.2.2 = 0 → x.2.1 ≤ s.size) := fun {a b} ha {x} hx h0 => by
    by_cases hb : b = 0
    · subst hb
      obtain ⟨x1, x2, x3⟩ := x
      simp only at h0
      subst h0
      exact (num_ok (k := 4) (m := 4) (by decide) (by decide) hx (ha rfl)).2
    · obtain ⟨x1, x2, x3⟩ := x
      have := (num_stuck hx hb).2.2
      simp only at h0
      rw [h0] at this
      exact absurd this.symm hb
  have s1 : b1 = 0 → a1 ≤ s.size := step (fun _ => Nat.zero_le _) h1
  have hk : k ≤ 500 := by
    rcases Nat.eq_zero_or_pos k with h0 | h0
    · omega
    · have hb : b1 = 0 := h2.good 0 h0
      have := rdL_bound (k := k - 1) (s1 hb) (fun i hi => h2.good i (by omega))
      omega
  have s2 : b2 = 0 → a2 ≤ s.size := fun hb => by
    have hb1 : b1 = 0 := Classical.byContradiction fun hc => by
      have hs : ∀ k, (rdL s a1 b1 k).2.2 = b1 := fun k => by
        induction k with
        | zero => rfl
        | succ k ih =>
          show (rd1 s (rdL s a1 b1 k).2.1 (rdL s a1 b1 k).2.2).2.2 = b1
          rw [ih]
          exact rd1_stuck hc
      have := hs k
      rw [h3, hb] at this
      exact hc this.symm
    subst hb1
    have := rdL_ok s a1 (s1 rfl) k (by rw [h3]; exact hb)
    rw [h3] at this
    exact this.2.1
  have s3 : b3 = 0 → a3 ≤ s.size := step s2 h4
  have hj : j ≤ 950 := by
    rcases Nat.eq_zero_or_pos j with h0 | h0
    · omega
    · have hb : b3 = 0 := h5.good 0 h0
      have := ids_bound (k := j - 1) (s3 hb) (fun i hi => h5.good i (by omega))
      omega
  exact ⟨by omega, by omega⟩
end Sq
end Go.Proofs.Ytgpimeobkacniaa
