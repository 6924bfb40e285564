/-
  Plain law: what holds of nodes and of those behind each, whatever is inserted.
-/
import Derived.Test.YtgpimeobkacniaaSqT
set_option linter.unusedVariables false
set_option linter.unusedSimpArgs false
namespace Go.Proofs.Ytgpimeobkacniaa
open Go.RowKit
namespace Sq
open Mp
theorem ah_irr (x : Int) (a : Wd) : ah x a x a = false := by
  unfold ah
  rw [decide_eq_false (by omega : ¬ x < x), decide_eq_false (IdL.cmpL_irr a)]
  simp
theorem ah_iff (x : Int) (a : Wd) (y : Int) (b : Wd) : ah x a y b = true ↔ x < y ∨ (x = y ∧ IdL.cmpL a b < 0) := by
  unfold ah
  simp
theorem ah_tri (x : Int) (a : Wd) (y : Int) (b : Wd) (h : a ≠ b) (hf : ah x a y b = false) : ah y b x a = true := by
  rw [ah_iff]
  have h1 : ¬ (x < y ∨ (x = y ∧ IdL.cmpL a b < 0)) := fun hc => by rw [(ah_iff x a y b).2 hc] at hf; cases hf
  rcases IdL.cmpL_tri a b with h2 | h2 | h2
  · by_cases e : x = y
    · exact absurd (.inr ⟨e, h2⟩) h1
    · have : ¬ x < y := fun h => h1 (.inl h)
      exact .inl (by omega)
  · exact absurd h2 h
  · have : ¬ x < y := fun h => h1 (.inl h)
    by_cases e : x = y
    · exact .inr ⟨e.symm, h2⟩
    · exact .inl (by omega)
theorem ah_trans {x y z : Int} {a b c : Wd} (h : ah x a y b = true) (h' : ah y b z c = true) : ah x a z c = true := by
  rw [ah_iff] at h h' ⊢
  rcases h with h | ⟨h, h1⟩ <;> rcases h' with h' | ⟨h', h2⟩
  · exact .inl (by omega)
  · exact .inl (by omega)
  · exact .inl (by omega)
  · exact .inr ⟨by omega, IdL.cmpL_trans _ _ _ h1 h2⟩
theorem ah_asymm {x y : Int} {a b : Wd} (h : ah x a y b = true) : ah y b x a = false := by
  cases h' : ah y b x a with
  | false => rfl
  | true => have := ah_trans h h'; rw [ah_irr] at this; cases this
/-- The second one is ahead by its height and id, so it stands behind. -/
def gd (f : Wd → Int) (y y' : Wd) : Prop := ah (f y') y' (f y) y = true
theorem take_tw {p : Wd → Bool} : ∀ (l : List Wd), l.take (l.takeWhile p).length = l.takeWhile p ∧ l.drop (l.takeWhile p).length = l.dropWhile p
  | [] => ⟨rfl, rfl⟩
  | a :: l => by
    obtain ⟨h1, h2⟩ := take_tw (p := p) l
    cases h : p a with
    | true => simp [h, h1, h2]
    | false => simp [h]
theorem insN_eq (N : Nds) (h : Int) (u : Wd) (l : List Wd) : insN N h u l = l.takeWhile (aheadOf N h u) ++ [u] ++ l.dropWhile (aheadOf N h u) := by
  obtain ⟨h1, h2⟩ := take_tw (p := aheadOf N h u) l
  unfold insN cutN
  rw [h1, h2]
theorem mem_tdw {p : Wd → Bool} {l : List Wd} {y : Wd} : y ∈ l ↔ y ∈ l.takeWhile p ∨ y ∈ l.dropWhile p := by
  rw [← List.mem_append, List.takeWhile_append_dropWhile]
theorem mem_insN (N : Nds) (h : Int) (u : Wd) (l : List Wd) (y : Wd) : y ∈ insN N h u l ↔ y = u ∨ y ∈ l := by
  rw [insN_eq, mem_tdw (p := aheadOf N h u) (l := l)]
  simp only [List.mem_append, List.mem_singleton]
  constructor
  · rintro ((h | h) | h)
    · exact .inr (.inl h)
    · exact .inl h
    · exact .inr (.inr h)
  · rintro (h | h | h)
    · exact .inl (.inr h)
    · exact .inl (.inl h)
    · exact .inr h
theorem tw_all {p : Wd → Bool} : ∀ (l : List Wd), ∀ y ∈ l.takeWhile p, p y = true
  | [], y, hy => by cases hy
  | a :: l, y, hy => by
    cases h : p a with
    | false => simp [h] at hy
    | true =>
      simp only [List.takeWhile_cons, h, if_true] at hy
      rcases List.mem_cons.1 hy with rfl | hy
      · exact h
      · exact tw_all l y hy
/-- Put in its place. -/
theorem ins_srt {f : Wd → Int} {h : Int} {u : Wd} (hu : f u = h) : ∀ (l : List Wd), l.Pairwise (gd f) → u ∉ l → (l.takeWhile (fun y => ah h u (f y) y) ++ [u] ++ l.dropWhile (fun y => ah h u (f y) y)).Pairwise (gd f)
  | [], _, _ => by simp
  | a :: l, hl, hn => by
    rw [List.pairwise_cons] at hl
    have hua : u ≠ a := fun e => hn (e ▸ List.mem_cons_self)
    have hul : u ∉ l := fun e => hn (List.mem_cons_of_mem _ e)
    cases hp : ah h u (f a) a with
    | true =>
      simp only [List.takeWhile_cons, List.dropWhile_cons, hp, if_true, List.cons_append]
      rw [List.pairwise_cons]
      refine ⟨fun y hy => ?_, ins_srt hu l hl.2 hul⟩
      rcases List.mem_append.1 hy with hy | hy
      · rcases List.mem_append.1 hy with hy | hy
        · exact hl.1 y (mem_tdw.2 (.inl hy))
        · obtain rfl := List.mem_singleton.1 hy
          show ah (f y) y (f a) a = true
          rw [hu]
          exact hp
      · exact hl.1 y (mem_tdw.2 (.inr hy))
    | false =>
      simp only [List.takeWhile_cons, List.dropWhile_cons, hp, Bool.false_eq_true, if_false, List.nil_append, List.cons_append]
      rw [List.pairwise_cons]
      have h0 : ah (f a) a h u = true := ah_tri _ _ _ _ hua hp
      refine ⟨fun y hy => ?_, by rw [List.pairwise_cons]; exact hl⟩
      show ah (f y) y (f u) u = true
      rw [hu]
      rcases List.mem_cons.1 hy with rfl | hy
      · exact h0
      · exact ah_trans (hl.1 y hy) h0
theorem gd_nodup {f : Wd → Int} {l : List Wd} (h : l.Pairwise (gd f)) : l.Nodup := h.imp fun {a b} hab e => by
  subst e
  have := ah_irr (f a) a
  rw [show ah (f a) a (f a) a = true from hab] at this
  cases this
/-- Two rows of the same things are one. -/
theorem gd_unique {f : Wd → Int} : ∀ (l m : List Wd), l.Pairwise (gd f) → m.Pairwise (gd f) → (∀ x, x ∈ l ↔ x ∈ m) → l = m
  | [], [], _, _, _ => rfl
  | [], b :: m, _, _, h => by have := (h b).2 List.mem_cons_self; cases this
  | a :: l, [], _, _, h => by have := (h a).1 List.mem_cons_self; cases this
  | a :: l, b :: m, hl, hm, h => by
    have nl := gd_nodup hl
    have nm := gd_nodup hm
    rw [List.pairwise_cons] at hl hm
    rw [List.nodup_cons] at nl nm
    have e : a = b := Classical.byContradiction fun hne => by
      have h1 : a ∈ m := by rcases List.mem_cons.1 ((h a).1 List.mem_cons_self) with h1 | h1; exact absurd h1 hne; exact h1
      have h2 : b ∈ l := by rcases List.mem_cons.1 ((h b).2 List.mem_cons_self) with h1 | h1; exact absurd h1.symm hne; exact h1
      have h3 := hl.1 b h2
      have h4 := hm.1 a h1
      have := ah_asymm (show ah (f b) b (f a) a = true from h3)
      rw [show ah (f a) a (f b) b = true from h4] at this
      cases this
    subst e
    refine congrArg (a :: ·) (gd_unique l m hl.2 hm.2 fun x => ⟨fun hx => ?_, fun hx => ?_⟩)
    · rcases List.mem_cons.1 ((h x).1 (List.mem_cons_of_mem _ hx)) with rfl | h1
      · exact absurd hx nl.1
      · exact h1
    · rcases List.mem_cons.1 ((h x).2 (List.mem_cons_of_mem _ hx)) with rfl | h1
      · exact absurd hx nm.1
      · exact h1
/-- What holds of nodes, and of those behind each. -/
structure Inv (N : Nds) (B : Bhs) : Prop where
  nk : (N.map (·.1)).Nodup
  bk : (B.map (·.1)).Nodup
  ok : ∀ p ∈ N, p.1.length = 32 ∧ chk p.1 p.2 = 0
  mem : ∀ r y, y ∈ rowsB B r ↔ ∃ x, (y, x) ∈ N ∧ x.r = r
  srt : ∀ r, (rowsB B r).Pairwise (gd (hN N))
theorem chk_ok {u : Wd} {x : Nd} (h : chk u x = 0) : x.v.size ≤ 16 ∧ 1 ≤ x.h ∧ x.h ≤ 1073741824 ∧ u ≠ Zi := by
  unfold chk at h
  split at h
  · cases h
  · split at h
    · cases h
    · rename_i h1 h2
      exact ⟨by omega, by omega, by omega, fun e => h2 (.inr (.inr e))⟩
theorem Inv.nil : Inv [] [] := ⟨List.nodup_nil, List.nodup_nil, fun p hp => by (cases hp), fun r y => ⟨fun h => (by cases h), fun ⟨x, h, _⟩ => (by cases h)⟩, fun r => List.Pairwise.nil⟩
def upN (N : Nds) (y : Wd) : Wd := ((fget N y).map (·.r)).getD Zi
theorem Inv.tr {N : Nds} {B : Bhs} (h : Inv N B) : Tr (rowsB B) (N.map (·.1)) (upN N) Zi := by
  refine ⟨fun r y => ?_, fun r => gd_nodup (h.srt r), fun hz => ?_⟩
  · rw [h.mem]
    constructor
    · rintro ⟨x, hx, rfl⟩
      refine ⟨List.mem_map.2 ⟨_, hx, rfl⟩, ?_⟩
      unfold upN
      rw [fget_of h.nk hx]
      rfl
    · rintro ⟨hy, hr⟩
      obtain ⟨⟨y', x⟩, hx, rfl⟩ := List.mem_map.1 hy
      refine ⟨x, hx, ?_⟩
      unfold upN at hr
      rw [fget_of h.nk hx] at hr
      exact hr
  · obtain ⟨p, hp, e⟩ := List.mem_map.1 hz
    exact (chk_ok (h.ok p hp).2).2.2.2 e
theorem rowsB_fput {B : Bhs} (hk : (B.map (·.1)).Nodup) (r0 : Wd) (v : Value) (l : List Wd) (r : Wd) : rowsB (fput B r0 (v, l)) r = if r = r0 then l else rowsB B r := by
  unfold rowsB rowB
  rw [fget_fput B hk]
  split <;> rfl
theorem hN_fput {N : Nds} (hk : (N.map (·.1)).Nodup) (u : Wd) (x : Nd) (y : Wd) : hN (fput N u x) y = if y = u then x.h else hN N y := by
  unfold hN
  rw [fget_fput N hk]
  split <;> rfl
theorem fput_new {N : Nds} {u : Wd} (x : Nd) (h : u ∉ N.map (·.1)) : fput N u x = N ++ [(u, x)] := if_neg h
theorem Inv.put {N : Nds} {B : Bhs} (h : Inv N B) {u : Wd} (hu : u.length = 32) {x : Nd} (hc : chk u x = 0) (hn : u ∉ N.map (·.1)) (v : Value) : Inv (fput N u x) (fput B x.r (v, insN N x.h u (rowB B x.r).2)) := by
  have hrow : ∀ r, u ∉ rowsB B r := fun r hr => by
    obtain ⟨x', hx', _⟩ := (h.mem r u).1 hr
    exact hn (List.mem_map.2 ⟨_, hx', rfl⟩)
  have hsame : ∀ r, ∀ y ∈ rowsB B r, hN (fput N u x) y = hN N y := fun r y hy => by
    rw [hN_fput h.nk, if_neg (fun e : y = u => hrow r (e ▸ hy))]
  have hpw : ∀ r, (rowsB B r).Pairwise (gd (hN (fput N u x))) := fun r => (h.srt r).imp_of_mem fun {a b} ha hb hab => by
    unfold gd at hab ⊢
    rw [hsame r a ha, hsame r b hb]
    exact hab
  refine ⟨nodup_fput h.nk u x, nodup_fput h.bk _ _, fun p hp => ?_, fun r y => ?_, fun r => ?_⟩
  · rcases mem_fput hp with rfl | hp
    · exact ⟨hu, hc⟩
    · exact h.ok p hp
  · rw [rowsB_fput h.bk, fput_new x hn]
    by_cases e : r = x.r
    · rw [if_pos e, mem_insN]
      show y = u ∨ y ∈ rowsB B x.r ↔ _
      rw [h.mem]
      constructor
      · rintro (rfl | ⟨x', h1, h2⟩)
        · exact ⟨x, by simp, e.symm⟩
        · exact ⟨x', List.mem_append_left _ h1, h2.trans e.symm⟩
      · rintro ⟨x', h1, h2⟩
        rcases List.mem_append.1 h1 with h1 | h1
        · exact .inr ⟨x', h1, h2.trans e⟩
        · exact .inl (congrArg Prod.fst (List.mem_singleton.1 h1))
    · rw [if_neg e, h.mem]
      constructor
      · rintro ⟨x', h1, h2⟩
        exact ⟨x', List.mem_append_left _ h1, h2⟩
      · rintro ⟨x', h1, h2⟩
        rcases List.mem_append.1 h1 with h1 | h1
        · exact ⟨x', h1, h2⟩
        · have := congrArg Prod.snd (List.mem_singleton.1 h1)
          simp only at this
          subst this
          exact absurd h2.symm e
  · rw [rowsB_fput h.bk]
    by_cases e : r = x.r
    · rw [if_pos e, insN_eq]
      have hw : ∀ y ∈ rowsB B x.r, aheadOf N x.h u y = ah x.h u (hN (fput N u x) y) y := fun y hy => by
        rw [hsame _ y hy]
        rfl
      have e1 : ∀ l : List Wd, (∀ y ∈ l, aheadOf N x.h u y = ah x.h u (hN (fput N u x) y) y) → l.takeWhile (aheadOf N x.h u) = l.takeWhile (fun y => ah x.h u (hN (fput N u x) y) y) ∧ l.dropWhile (aheadOf N x.h u) = l.dropWhile (fun y => ah x.h u (hN (fput N u x) y) y) := fun l => by
        induction l with
        | nil => exact fun _ => ⟨rfl, rfl⟩
        | cons a l ih =>
          intro hl
          obtain ⟨i1, i2⟩ := ih (fun y hy => hl y (List.mem_cons_of_mem _ hy))
          have ha := hl a List.mem_cons_self
          simp only [List.takeWhile_cons, List.dropWhile_cons, ha, i1, i2]
          exact ⟨trivial, trivial⟩
      obtain ⟨e2, e3⟩ := e1 (rowB B x.r).2 hw
      rw [e2, e3]
      exact ins_srt (by rw [hN_fput h.nk, if_pos rfl]) _ (hpw x.r) (hrow x.r)
    · rw [if_neg e]
      exact hpw r
theorem Inv.row_len {N : Nds} {B : Bhs} (h : Inv N B) (r : Wd) : (rowsB B r).length ≤ N.length := by
  have := nodup_len (l := rowsB B r) (U := N.map (·.1)) (gd_nodup (h.srt r)) (fun y hy => by
    obtain ⟨x, hx, _⟩ := (h.mem r y).1 hy
    exact List.mem_map.2 ⟨_, hx, rfl⟩)
  rwa [List.length_map] at this
theorem Inv.dep {N : Nds} {B : Bhs} (h : Inv N B) : Dep (rowsB B) N.length Zi := by
  have := h.tr.dep
  rwa [List.length_map] at this
theorem Inv.pre_len {N : Nds} {B : Bhs} (h : Inv N B) (n : Nat) : (pre (rowsB B) n Zi).length ≤ N.length := by
  have := h.tr.pre_len n
  rwa [List.length_map] at this
/-- All that is in order. -/
def ordr (N : Nds) (B : Bhs) : List Wd := pre (rowsB B) (N.length + 1) Zi
theorem Inv.ord_nodup {N : Nds} {B : Bhs} (h : Inv N B) : (ordr N B).Nodup := h.tr.pre_nodup _ 0 Zi rfl
/-- A node with its id. -/
structure Dn where
  u : Wd
  hu : u.length = 32
  x : Nd
def Dn.p (d : Dn) : Wd × Nd := (d.u, d.x)
/-- The document's nodes and one more. -/
def insD (X : List Dn) (d : Dn) : List Dn := if d.u ∈ X.map (·.u) then X else X.takeWhile (fun y => decide (IdL.cmpL y.u d.u < 0)) ++ d :: X.dropWhile (fun y => decide (IdL.cmpL y.u d.u < 0))
theorem map_tw (p : Wd → Bool) : ∀ (X : List Dn), (X.takeWhile fun y => p y.u).map (·.u) = (X.map (·.u)).takeWhile p ∧ (X.dropWhile fun y => p y.u).map (·.u) = (X.map (·.u)).dropWhile p
  | [] => ⟨rfl, rfl⟩
  | a :: X => by
    obtain ⟨h1, h2⟩ := map_tw p X
    cases h : p a.u with
    | true => simp [h, h1, h2]
    | false => simp [h]
theorem insD_u (X : List Dn) (d : Dn) : (insD X d).map (·.u) = IdL.withL (X.map (·.u)) d.u := by
  unfold insD IdL.withL
  split
  · rfl
  · obtain ⟨h1, h2⟩ := map_tw (fun y => decide (IdL.cmpL y d.u < 0)) X
    rw [List.map_append, List.map_cons, h1, h2]
/-- What the two sides have alike. -/
structure Alk (X : List Dn) (N : Nds) : Prop where
  srt : IdL.Srt (X.map (·.u))
  perm : (X.map Dn.p).Perm N
theorem Alk.nil : Alk [] [] := ⟨List.Pairwise.nil, List.Perm.nil⟩
theorem Alk.keys {X : List Dn} {N : Nds} (h : Alk X N) (u : Wd) : u ∈ X.map (·.u) ↔ u ∈ N.map (·.1) := by
  have e : X.map (·.u) = (X.map Dn.p).map (·.1) := by rw [List.map_map]; rfl
  rw [e]
  exact (h.perm.map (·.1)).mem_iff
theorem Alk.len {X : List Dn} {N : Nds} (h : Alk X N) : X.length = N.length := by
  have := h.perm.length_eq
  rwa [List.length_map] at this
theorem Alk.mem {X : List Dn} {N : Nds} (h : Alk X N) {d : Dn} (hd : d ∈ X) : (d.u, d.x) ∈ N := h.perm.mem_iff.1 (List.mem_map.2 ⟨d, hd, rfl⟩)
theorem Alk.put {X : List Dn} {N : Nds} (h : Alk X N) (d : Dn) (hn : d.u ∉ N.map (·.1)) : Alk (insD X d) (fput N d.u d.x) := by
  refine ⟨by rw [insD_u]; exact IdL.withL_srt h.srt _, ?_⟩
  have hx : d.u ∉ X.map (·.u) := fun hc => hn ((h.keys _).1 hc)
  unfold insD
  rw [if_neg hx, fput_new _ hn, List.map_append, List.map_cons]
  refine List.perm_middle.trans ?_
  rw [← List.map_append, List.takeWhile_append_dropWhile]
  exact (List.Perm.cons _ h.perm).trans (List.perm_append_singleton (d.u, d.x) N).symm
theorem insD_in {X : List Dn} {d : Dn} (h : d.u ∈ X.map (·.u)) : insD X d = X := if_pos h
/-- The law itself. -/
theorem behind_law {X : List Dn} {N : Nds} {B : Bhs} (hi : Inv N B) (ha : Alk X N) {d : Dn} (hd : d ∈ X) :
    (plc (ordr N B) d.u < 0 → d.x.r ≠ Zi ∧ plc (ordr N B) d.x.r < 0) ∧
    (0 ≤ plc (ordr N B) d.u → d.x.r ≠ Zi → 0 ≤ plc (ordr N B) d.x.r ∧ plc (ordr N B) d.x.r < plc (ordr N B) d.u) ∧
    (0 ≤ plc (ordr N B) d.u → ∀ m ∈ X, m.x.r = d.x.r → ah m.x.h m.u d.x.h d.u = true → plc (ordr N B) d.u ≤ plc (ordr N B) m.u) := by
  have hdN := ha.mem hd
  have hup : upN N d.u = d.x.r := by unfold upN; rw [fget_of hi.nk hdN]; rfl
  have hh : ∀ m ∈ X, hN N m.u = m.x.h := fun m hm => by unfold hN; rw [fget_of hi.nk (ha.mem hm)]; rfl
  have h := hi.tr.behind (y := d.u) (List.mem_map.2 ⟨_, hdN, rfl⟩)
  rw [hup, List.length_map] at h
  obtain ⟨h1, h2, h3⟩ := h
  refine ⟨h1, h2, fun h0 m hm hr hm2 => ?_⟩
  have hne : m.u ≠ d.u := fun e => by
    have e2 : m.x.h = d.x.h := by rw [← hh m hm, ← hh d hd, e]
    rw [e, e2, ah_irr] at hm2
    cases hm2
  refine Int.le_of_lt (h3 h0 m.u ?_)
  have hdr : d.u ∈ rowsB B d.x.r := (hi.mem _ _).2 ⟨_, hdN, rfl⟩
  have hmr : m.u ∈ rowsB B d.x.r := (hi.mem _ _).2 ⟨_, ha.mem hm, hr⟩
  obtain ⟨P, S, e⟩ := List.append_of_mem hdr
  rw [e] at hmr
  have hs := hi.srt d.x.r
  rw [e, List.pairwise_append] at hs
  refine ⟨P, S, e, ?_⟩
  rcases List.mem_append.1 hmr with h4 | h4
  · have h5 := hs.2.2 m.u h4 d.u List.mem_cons_self
    unfold gd at h5
    rw [hh m hm, hh d hd] at h5
    have := ah_asymm h5
    rw [hm2] at this
    cases this
  · rcases List.mem_cons.1 h4 with h4 | h4
    · exact absurd h4 hne
    · exact h4
end Sq
end Go.Proofs.Ytgpimeobkacniaa
