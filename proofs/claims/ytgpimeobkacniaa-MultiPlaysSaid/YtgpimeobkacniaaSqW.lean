/-
  Plain law: the document's Behind and Order are the rows and the order.
-/
import Derived.Test.YtgpimeobkacniaaSqV
set_option linter.unusedVariables false
set_option linter.unusedSimpArgs false
namespace Go.Proofs.Ytgpimeobkacniaa
open Go.RowKit
namespace Sq
open Mp
/-- A node among those that stand in a row. -/
def insB (out : List Dn) (n : Dn) : List Dn := out.takeWhile (fun y => ah n.x.h n.u y.x.h y.u) ++ n :: out.dropWhile (fun y => ah n.x.h n.u y.x.h y.u)
def behD (X : List Dn) (r : Wd) : List Dn := X.foldl (fun out n => if n.x.r = r then insB out n else out) []
theorem mem_insB (out : List Dn) (n d : Dn) : d ∈ insB out n ↔ d = n ∨ d ∈ out := by
  have e : d ∈ out ↔ d ∈ out.takeWhile (fun y => ah n.x.h n.u y.x.h y.u) ∨ d ∈ out.dropWhile (fun y => ah n.x.h n.u y.x.h y.u) := by
    rw [← List.mem_append, List.takeWhile_append_dropWhile]
  unfold insB
  rw [e]
  simp only [List.mem_append, List.mem_cons]
  constructor
  · rintro (h | h | h)
    · exact .inr (.inl h)
    · exact .inl h
    · exact .inr (.inr h)
  · rintro (h | h | h)
    · exact .inr (.inl h)
    · exact .inl h
    · exact .inr (.inr h)
theorem behD_snoc (X : List Dn) (d : Dn) (r : Wd) : behD (X ++ [d]) r = if d.x.r = r then insB (behD X r) d else behD X r := by
  unfold behD
  rw [List.foldl_append]
  rfl
theorem mem_beh (r : Wd) (d : Dn) : ∀ (n : Nat) (X : List Dn), X.length = n → (d ∈ behD X r ↔ d ∈ X ∧ d.x.r = r)
  | 0, X, h => by
    rw [List.eq_nil_of_length_eq_zero h]
    exact ⟨fun h => (by cases h), fun h => (by cases h.1)⟩
  | n + 1, X, h => by
    obtain ⟨Y, z, rfl⟩ : ∃ Y z, X = Y ++ [z] := by
      rcases List.eq_nil_or_concat X with h' | ⟨Y, z, h'⟩
      · rw [h'] at h; cases h
      · exact ⟨Y, z, by rw [h']; try simp⟩
    have ih := mem_beh r d n Y (by simpa using h)
    rw [behD_snoc]
    by_cases e : z.x.r = r
    · rw [if_pos e, mem_insB, ih, List.mem_append, List.mem_singleton]
      constructor
      · rintro (rfl | ⟨h1, h2⟩)
        · exact ⟨.inr rfl, e⟩
        · exact ⟨.inl h1, h2⟩
      · rintro ⟨h1 | h1, h2⟩
        · exact .inr ⟨h1, h2⟩
        · exact .inl h1
    · rw [if_neg e, ih, List.mem_append, List.mem_singleton]
      constructor
      · rintro ⟨h1, h2⟩
        exact ⟨.inl h1, h2⟩
      · rintro ⟨h1 | h1, h2⟩
        · exact ⟨h1, h2⟩
        · exact absurd (h1 ▸ h2) e
theorem map_twD (h : Int) (u : Wd) (f : Wd → Int) : ∀ (X : List Dn), (∀ d ∈ X, f d.u = d.x.h) → (X.takeWhile fun y => ah h u y.x.h y.u).map (·.u) = (X.map (·.u)).takeWhile (fun y => ah h u (f y) y) ∧ (X.dropWhile fun y => ah h u y.x.h y.u).map (·.u) = (X.map (·.u)).dropWhile (fun y => ah h u (f y) y)
  | [], _ => ⟨rfl, rfl⟩
  | a :: X, hf => by
    obtain ⟨h1, h2⟩ := map_twD h u f X (fun d hd => hf d (List.mem_cons_of_mem _ hd))
    have h3 := hf a List.mem_cons_self
    cases h4 : ah h u a.x.h a.u with
    | true => simp [h4, h1, h2, h3]
    | false => simp [h4, h3]
theorem beh_srt (f : Wd → Int) (r : Wd) : ∀ (n : Nat) (X : List Dn), X.length = n → (∀ d ∈ X, f d.u = d.x.h) → (X.map (·.u)).Nodup → ((behD X r).map (·.u)).Pairwise (gd f)
  | 0, X, h, _, _ => by
    rw [List.eq_nil_of_length_eq_zero h]
    exact List.Pairwise.nil
  | n + 1, X, h, hf, hn => by
    obtain ⟨Y, z, rfl⟩ : ∃ Y z, X = Y ++ [z] := by
      rcases List.eq_nil_or_concat X with h' | ⟨Y, z, h'⟩
      · rw [h'] at h; cases h
      · exact ⟨Y, z, by rw [h']; try simp⟩
    have hfY : ∀ d ∈ Y, f d.u = d.x.h := fun d hd => hf d (List.mem_append_left _ hd)
    rw [List.map_append, List.nodup_append] at hn
    have ih := beh_srt f r n Y (by simpa using h) hfY hn.1
    rw [behD_snoc]
    by_cases e : z.x.r = r
    · rw [if_pos e]
      unfold insB
      obtain ⟨h1, h2⟩ := map_twD z.x.h z.u f (behD Y r) (fun d hd => hfY d ((mem_beh r d Y.length Y rfl).1 hd).1)
      rw [List.map_append, List.map_cons, h1, h2]
      have := ins_srt (f := f) (h := z.x.h) (u := z.u) (hf z (by simp)) _ ih (fun hc => by
        obtain ⟨d, hd, e2⟩ := List.mem_map.1 hc
        exact hn.2.2 d.u (List.mem_map.2 ⟨d, ((mem_beh r d Y.length Y rfl).1 hd).1, rfl⟩) z.u (by simp) e2)
      simpa using this
    · rw [if_neg e]
      exact ih
theorem Alk.nodup {X : List Dn} {N : Nds} (h : Alk X N) : (X.map (·.u)).Nodup := IdL.srt_nodup h.srt
theorem beh_row {X : List Dn} {N : Nds} {B : Bhs} (hi : Inv N B) (ha : Alk X N) (r : Wd) : (behD X r).map (·.u) = rowsB B r := by
  have hh : ∀ m ∈ X, hN N m.u = m.x.h := fun m hm => by unfold hN; rw [fget_of hi.nk (ha.mem hm)]; rfl
  refine gd_unique (f := hN N) _ _ (beh_srt (hN N) r X.length X rfl hh ha.nodup) (hi.srt r) fun y => ?_
  rw [hi.mem, List.mem_map]
  constructor
  · rintro ⟨d, hd, rfl⟩
    obtain ⟨h1, h2⟩ := (mem_beh r d X.length X rfl).1 hd
    exact ⟨d.x, ha.mem h1, h2⟩
  · rintro ⟨x, hx, hr⟩
    obtain ⟨d, hd, e⟩ := List.mem_map.1 (ha.perm.mem_iff.2 hx)
    simp only [Dn.p, Prod.mk.injEq] at e
    exact ⟨d, (mem_beh r d X.length X rfl).2 ⟨hd, by rw [e.2]; exact hr⟩, e.1⟩
theorem dep_up {R : Wd → List Wd} : ∀ (n : Nat) (r : Wd), Dep R n r → Dep R (n + 1) r
  | 0, r, h => fun x hx => by rw [show R r = [] from h] at hx; cases hx
  | n + 1, r, h => fun x hx => dep_up n x (h x hx)
theorem flatMap_congr' {α β : Type} {f g : α → List β} : ∀ {l : List α}, (∀ x ∈ l, f x = g x) → l.flatMap f = l.flatMap g
  | [], _ => rfl
  | a :: l, h => by
    rw [List.flatMap_cons, List.flatMap_cons, h a List.mem_cons_self, flatMap_congr' (fun x hx => h x (List.mem_cons_of_mem _ hx))]
theorem sat {R : Wd → List Wd} : ∀ (n : Nat) (r : Wd), Dep R n r → pre R (n + 2) r = pre R (n + 1) r
  | 0, r, h => by simp only [pre, show R r = [] from h, List.flatMap_nil]
  | n + 1, r, h => by
    rw [pre, pre]
    exact flatMap_congr' fun x hx => by rw [sat n x (h x hx)]
/-- What is still to come, of a row. -/
def rest' (R : Wd → List Wd) (n : Nat) (row : List Wd) : List Wd := row.flatMap fun x => x :: pre R (n + 1) x
theorem rest_step {R : Wd → List Wd} {n : Nat} {x : Wd} {row : List Wd} (hx : Dep R n x) : rest' R n (x :: row) = x :: rest' R n (R x ++ row) := by
  unfold rest'
  rw [List.flatMap_cons, List.flatMap_append, List.cons_append, List.cons.injEq]
  refine ⟨rfl, ?_⟩
  congr 1
  rw [pre]
  refine flatMap_congr' fun y hy => ?_
  cases n with
  | zero => rw [show R x = [] from hx] at hy; cases hy
  | succ n => rw [sat n y (hx y hy)]
theorem dep_row {R : Wd → List Wd} {n : Nat} {x : Wd} {row : List Wd} (hx : Dep R n x) (hr : ∀ y ∈ row, Dep R n y) : ∀ y ∈ R x ++ row, Dep R n y := by
  intro y hy
  rcases List.mem_append.1 hy with hy | hy
  · cases n with
    | zero => rw [show R x = [] from hx] at hy; cases hy
    | succ n => exact dep_up n y (hx y hy)
  · exact hr y hy
/-- The order begins with the row of those that stand first. -/
theorem ord_rest {N : Nds} {B : Bhs} (hi : Inv N B) : ordr N B = rest' (rowsB B) N.length (rowsB B Zi) := by
  unfold ordr rest'
  rw [← sat N.length Zi hi.dep]
  rfl
theorem row_dep {N : Nds} {B : Bhs} (hi : Inv N B) : ∀ y ∈ rowsB B Zi, Dep (rowsB B) N.length y := by
  have h := hi.dep
  generalize N.length = n at h
  intro y hy
  cases n with
  | zero => rw [show rowsB B Zi = [] from h] at hy; cases hy
  | succ n => exact dep_up n y (h y hy)
end Sq
end Go.Proofs.Ytgpimeobkacniaa
