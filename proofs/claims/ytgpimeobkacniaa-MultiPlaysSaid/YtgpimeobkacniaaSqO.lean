/-
  Plain law: what the calls make of the document's list; the order plays no part; put and loaded.
-/
import Derived.Test.YtgpimeobkacniaaSqP
import Derived.Test.YtgpimeobkacniaaSqR
set_option linter.unusedVariables false
set_option linter.unusedSimpArgs false
namespace Go.Proofs.Ytgpimeobkacniaa
open Go.RowKit
namespace Sq
open Oct Ids Seg
theorem pw_unique {α : Type} {r : α → α → Prop} (hr : ∀ a b, r a b → ¬ r b a) : ∀ (l m : List α), l.Pairwise r → m.Pairwise r → (∀ x, x ∈ l ↔ x ∈ m) → l = m
  | [], [], _, _, _ => rfl
  | [], b :: m, _, _, h => by have := (h b).2 List.mem_cons_self; cases this
  | a :: l, [], _, _, h => by have := (h a).1 List.mem_cons_self; cases this
  | a :: l, b :: m, hl, hm, h => by
    rw [List.pairwise_cons] at hl hm
    have na : a ∉ l := fun hc => hr _ _ (hl.1 a hc) (hl.1 a hc)
    have nb : b ∉ m := fun hc => hr _ _ (hm.1 b hc) (hm.1 b hc)
    have e : a = b := Classical.byContradiction fun hne => by
      have h1 : a ∈ m := by rcases List.mem_cons.1 ((h a).1 List.mem_cons_self) with h1 | h1; exact absurd h1 hne; exact h1
      have h2 : b ∈ l := by rcases List.mem_cons.1 ((h b).2 List.mem_cons_self) with h1 | h1; exact absurd h1.symm hne; exact h1
      exact hr _ _ (hl.1 b h2) (hm.1 a h1)
    subst e
    refine congrArg (a :: ·) (pw_unique hr l m hl.2 hm.2 fun x => ⟨fun hx => ?_, fun hx => ?_⟩)
    · rcases List.mem_cons.1 ((h x).1 (List.mem_cons_of_mem _ hx)) with rfl | h1
      · exact absurd hx na
      · exact h1
    · rcases List.mem_cons.1 ((h x).2 (List.mem_cons_of_mem _ hx)) with rfl | h1
      · exact absurd hx nb
      · exact h1
theorem dn_unique {X Y : List Dn} (hX : IdL.Srt (X.map (·.u))) (hY : IdL.Srt (Y.map (·.u))) (h : ∀ d, d ∈ X ↔ d ∈ Y) : X = Y := by
  unfold IdL.Srt at hX hY
  rw [List.pairwise_map] at hX hY
  exact pw_unique (fun a b h1 h2 => by have := IdL.cmpL_trans _ _ _ h1 h2; exact IdL.cmpL_irr _ this) X Y hX hY h
/-- One call: is it an insertion? -/
def isI (a : Ak) : Prop := a.k = 0 ∨ a.k = 1
instance (a : Ak) : Decidable (isI a) := by unfold isI; infer_instance
def stX (X : List Dn) (a : Ak) : List Dn := if isI a ∧ chk a.d.u a.d.x = 0 then insD X a.d else X
def stG (G : List Wd) (a : Ak) : List Wd := if isI a then G else IdL.withL G a.d.u
theorem mem_insD {X : List Dn} {d e : Dn} : e ∈ insD X d ↔ (e ∈ X ∨ (e = d ∧ d.u ∉ X.map (·.u))) := by
  unfold insD
  split
  · rename_i h
    exact ⟨.inl, fun h' => h'.elim id fun h' => absurd h h'.2⟩
  · rename_i h
    have e2 : e ∈ X ↔ e ∈ X.takeWhile (fun y => decide (IdL.cmpL y.u d.u < 0)) ∨ e ∈ X.dropWhile (fun y => decide (IdL.cmpL y.u d.u < 0)) := by
      rw [← List.mem_append, List.takeWhile_append_dropWhile]
    rw [e2]
    simp only [List.mem_append, List.mem_cons]
    constructor
    · rintro (h1 | h1 | h1)
      · exact .inl (.inl h1)
      · exact .inr ⟨h1, h⟩
      · exact .inl (.inr h1)
    · rintro ((h1 | h1) | ⟨h1, _⟩)
      · exact .inl h1
      · exact .inr (.inr h1)
      · exact .inr (.inl h1)
/-- Each id has one node. -/
def One (L : List Ak) : Prop := ∀ a ∈ L, ∀ b ∈ L, a.d.u = b.d.u → a.d = b.d
/-- What stands there, of such calls. -/
structure Sum (L : List Ak) (X : List Dn) (G : List Wd) : Prop where
  srt : IdL.Srt (X.map (·.u))
  mem : ∀ d, d ∈ X ↔ ∃ a ∈ L, isI a ∧ chk a.d.u a.d.x = 0 ∧ a.d = d
  gs : IdL.Srt G
  gm : ∀ u, u ∈ G ↔ ∃ a ∈ L, ¬ isI a ∧ a.d.u = u
theorem Sum.nil : Sum [] [] [] := ⟨List.Pairwise.nil, fun d => ⟨fun h => (by cases h), fun ⟨a, h, _⟩ => (by cases h)⟩, List.Pairwise.nil, fun u => ⟨fun h => (by cases h), fun ⟨a, h, _⟩ => (by cases h)⟩⟩
theorem Sum.step {L : List Ak} {X : List Dn} {G : List Wd} (h : Sum L X G) (a : Ak) (ho : ∀ b ∈ L, a.d.u = b.d.u → a.d = b.d) : Sum (L ++ [a]) (stX X a) (stG G a) := by
  refine ⟨?_, fun d => ?_, ?_, fun u => ?_⟩
  · unfold stX
    split
    · rw [insD_u]; exact IdL.withL_srt h.srt _
    · exact h.srt
  · unfold stX
    by_cases hc : isI a ∧ chk a.d.u a.d.x = 0
    · rw [if_pos hc, mem_insD, h.mem]
      constructor
      · rintro (⟨b, hb, h1⟩ | ⟨rfl, _⟩)
        · exact ⟨b, List.mem_append_left _ hb, h1⟩
        · exact ⟨a, by simp, hc.1, hc.2, rfl⟩
      · rintro ⟨b, hb, h1, h2, rfl⟩
        rcases List.mem_append.1 hb with hb | hb
        · exact .inl ⟨b, hb, h1, h2, rfl⟩
        · obtain rfl := List.mem_singleton.1 hb
          by_cases hin : b.d.u ∈ X.map (·.u)
          · obtain ⟨d, hd, e⟩ := List.mem_map.1 hin
            obtain ⟨c, hcL, h3, h4, rfl⟩ := (h.mem d).1 hd
            exact .inl ⟨c, hcL, h3, h4, (ho c hcL e.symm).symm⟩
          · exact .inr ⟨rfl, hin⟩
    · rw [if_neg hc, h.mem]
      constructor
      · rintro ⟨b, hb, h1⟩
        exact ⟨b, List.mem_append_left _ hb, h1⟩
      · rintro ⟨b, hb, h1, h2, h3⟩
        rcases List.mem_append.1 hb with hb | hb
        · exact ⟨b, hb, h1, h2, h3⟩
        · obtain rfl := List.mem_singleton.1 hb
          exact absurd ⟨h1, h2⟩ hc
  · unfold stG
    split
    · exact h.gs
    · exact IdL.withL_srt h.gs _
  · unfold stG
    by_cases hc : isI a
    · rw [if_pos hc, h.gm]
      constructor
      · rintro ⟨b, hb, h1⟩
        exact ⟨b, List.mem_append_left _ hb, h1⟩
      · rintro ⟨b, hb, h1, h2⟩
        rcases List.mem_append.1 hb with hb | hb
        · exact ⟨b, hb, h1, h2⟩
        · obtain rfl := List.mem_singleton.1 hb
          exact absurd hc h1
    · rw [if_neg hc, IdL.mem_withL, h.gm]
      constructor
      · rintro (rfl | ⟨b, hb, h1⟩)
        · exact ⟨a, by simp, hc, rfl⟩
        · exact ⟨b, List.mem_append_left _ hb, h1⟩
      · rintro ⟨b, hb, h1, h2⟩
        rcases List.mem_append.1 hb with hb | hb
        · exact .inr ⟨b, hb, h1, h2⟩
        · obtain rfl := List.mem_singleton.1 hb
          exact .inl h2.symm
/-- The same calls, in whatever order, and however often. -/
theorem Sum.uniq {L M : List Ak} {X Y : List Dn} {G H : List Wd} (h : Sum L X G) (h' : Sum M Y H) (hm : ∀ a, a ∈ L ↔ a ∈ M) : X = Y ∧ G = H := by
  refine ⟨dn_unique h.srt h'.srt fun d => ?_, IdL.srt_unique _ _ h.gs h'.gs fun u => ?_⟩
  · rw [h.mem, h'.mem]
    exact ⟨fun ⟨a, ha, h1⟩ => ⟨a, (hm a).1 ha, h1⟩, fun ⟨a, ha, h1⟩ => ⟨a, (hm a).2 ha, h1⟩⟩
  · rw [h.gm, h'.gm]
    exact ⟨fun ⟨a, ha, h1⟩ => ⟨a, (hm a).1 ha, h1⟩, fun ⟨a, ha, h1⟩ => ⟨a, (hm a).2 ha, h1⟩⟩
/-- One node's bytes read. -/
theorem rd1_seg {T : ByteArray} {a : Nat} {d : Dn} {r : List UInt8} (h : dr T a = nodeB d ++ r) (h0 : 0 ≤ d.x.h) (h1 : d.x.h < 4294967296) (hv : d.x.v.size < 256) (hle : a ≤ T.size) : rd1 T a 0 = (d, a + 69 + d.x.v.size, 0) ∧ dr T (a + 69 + d.x.v.size) = r ∧ a + 69 + d.x.v.size ≤ T.size := by
  unfold nodeB at h
  simp only [List.append_assoc] at h
  obtain ⟨e1, g1, l1⟩ := raw_seg h 32 (by rw [d.hu]; rfl) hle
  obtain ⟨e2, g2, l2⟩ := num_seg (m := 4) (k := 4) g1 (by decide) (by decide) h0 (by omega) l1
  obtain ⟨e3, g3, l3⟩ := raw_seg g2 32 (by rw [d.x.hr]; rfl) l2
  obtain ⟨e4, g4, l4⟩ := num_seg (m := 1) (k := 1) g3 (by decide) (by decide) (by omega) (by omega) l3
  obtain ⟨e5, g5, l5⟩ := raw_seg g4 d.x.v.size (by rw [len_s]) l4
  have z1 := d.hu
  have z3 := d.x.hr
  have z5 := len_s d.x.v
  rw [z1] at e2 e3 e4 e5 g5 l5
  rw [z3] at e4 e5 g5 l5
  rw [z5] at e5 g5 l5
  have ep : a + 32 + 4 + 32 + 1 + d.x.v.size = a + 69 + d.x.v.size := by omega
  rw [ep] at e5 g5 l5
  refine ⟨?_, g5, l5⟩
  rw [z1] at e1
  rw [z3] at e3
  have et : ((d.x.h.toNat : Nat) : Int) = d.x.h := Int.toNat_of_nonneg h0
  have ev : (((d.x.v.size : Int).toNat : Nat) : Int) = (d.x.v.size : Int) := Int.toNat_of_nonneg (by omega)
  unfold rd1
  simp only [e1, e2, e3, e4, ev, e5, et]
  obtain ⟨u, hu, h, r, hr, v⟩ := d
  simp only [pad_of hu, pad_of hr, fit_eq hu, fit_eq hr]
end Sq
end Go.Proofs.Ytgpimeobkacniaa
