/-
  fetch: round upon round, as long as the same ids are missing and nobody answers; plain law.
-/
import Derived.Test.YtgllkfolckbdhaaFeP
set_option linter.unusedVariables false
set_option linter.unusedSimpArgs false
namespace Go.Proofs.Ytgllkfolckbdhaa
open Go.RowKit
namespace Fe
open Oct Ids Mp
/-- All peers but one, as bits. -/
def full (sf : Nat) : Nat := 63 - 2 ^ sf
def pc (m : Nat) : Nat := ((List.range 6).filter m.testBit).length
def Sb (m n : Nat) : Prop := m ||| n = n
instance (m n : Nat) : Decidable (Sb m n) := inferInstanceAs (Decidable (m ||| n = n))
theorem Sb.refl (m : Nat) : Sb m m := Nat.or_self m
theorem Sb.trans {m n o : Nat} (h : Sb m n) (k : Sb n o) : Sb m o := by unfold Sb at *; rw [← k, ← Nat.or_assoc, h]
theorem Sb.zero (m : Nat) : Sb 0 m := Nat.zero_or m
theorem Sb.left (m n : Nat) : Sb m (m ||| n) := by unfold Sb; rw [← Nat.or_assoc, Nat.or_self]
theorem Sb.right (m n : Nat) : Sb n (m ||| n) := by unfold Sb; rw [Nat.or_comm m n, ← Nat.or_assoc, Nat.or_self]
theorem Sb.or {m n o : Nat} (h : Sb m o) (k : Sb n o) : Sb (m ||| n) o := by unfold Sb at *; rw [Nat.or_assoc, k, h]
theorem Sb.anti {m n : Nat} (h : Sb m n) (k : Sb n m) : m = n := by unfold Sb at *; rw [← h, Nat.or_comm, k]
theorem pc_add : ∀ m < 64, ∀ p < 6, m.testBit p = false → pc (m ||| 2 ^ p) = pc m + 1 := by decide +kernel
theorem peer_sub : ∀ sf < 6, ∀ p < 6, p ≠ sf → Sb (2 ^ p) (full sf) := by decide +kernel
theorem one_left : ∀ sf < 6, ∀ m < 64, Sb m (full sf) → pc m < 5 → ((List.range 6).any fun p => decide (p ≠ sf) && !m.testBit p) = true := by decide +kernel
theorem none_left : ∀ sf < 6, ∀ m < 64, Sb m (full sf) → pc m = 5 → m = full sf := by decide +kernel
theorem full_bit : ∀ sf < 6, ∀ p < 6, p ≠ sf → (full sf).testBit p = true := by decide +kernel
theorem best_found (S : List Int) (m : Nat) : ∀ (l : List Int) (acc : Int × Bool), (acc.2 = true ∨ ∃ p ∈ l, m.testBit p.toNat = false) → (l.foldl (bstep S m) acc).2 = true
  | [], acc, h => by
    rcases h with h | ⟨p, hp, _⟩
    · exact h
    · cases hp
  | q :: l, acc, h => by
    rw [List.foldl_cons]
    apply best_found S m l
    unfold bstep
    split
    · exact .inl rfl
    · rename_i hc
      rcases h with h | ⟨p, hp, hb⟩
      · exact .inl h
      · rcases List.mem_cons.1 hp with rfl | hp
        · refine .inl ?_
          cases ha : acc.2 with
          | true => rfl
          | false => exact absurd ⟨hb, .inl ha⟩ hc
        · exact .inr ⟨p, hp, hb⟩
theorem bestS_some {S : List Int} {sf : Nat} {m : Nat} (hs : sf < 6) (hm : m < 64) (h : Sb m (full sf)) (hp : pc m < 5) : (bestS S (sf : Int) m).2 = true := by
  have h1 := one_left sf hs m hm h hp
  rw [List.any_eq_true] at h1
  obtain ⟨p, hpr, h2⟩ := h1
  have hp6 := List.mem_range.1 hpr
  simp only [Bool.and_eq_true, decide_eq_true_eq, Bool.not_eq_true'] at h2
  refine best_found S m _ _ (.inr ⟨(p : Int), prs_mem.2 ?_, by simpa using h2.2⟩)
  unfold isP
  refine decide_eq_true ⟨by omega, by omega, fun e => h2.1 (by omega)⟩
theorem bestS_none {S : List Int} {sf : Nat} {m : Nat} (hs : sf < 6) (hm : m < 64) (h : Sb m (full sf)) (hp : pc m = 5) : (bestS S (sf : Int) m).2 = false := by
  cases hb : (bestS S (sf : Int) m).2 with
  | false => rfl
  | true =>
    obtain ⟨h1, h2⟩ := bestS_ok hb
    obtain rfl := none_left sf hs m hm h hp
    unfold isP at h1
    obtain ⟨a, b, c⟩ := of_decide_eq_true h1
    rw [full_bit sf hs (bestS S (sf : Int) (full sf)).1.toNat (by omega) (fun e => c (by omega))] at h2
    cases h2
/-- A fetching with so many peers tried. -/
structure PX (sf k : Nat) (x : Fd) : Prop where
  ok : XOk x
  sub : Sb (askT x) (full sf)
  n : pc (askT x) = k
theorem askT_of {sf : Int} {y : Fd} (h : AskOk sf y) : askT y = y.t.toNat ||| 2 ^ y.p.toNat := by
  have := isP_in h.p
  unfold askT
  rw [if_neg (by omega)]
theorem due_ok {sf k : Nat} (hs : sf < 6) {x : Fd} (h : PX sf k x) (hk : k < 5) (S : List Int) (now : Int) :
    (askR S sf x).2 = true ∧ PX sf (k + 1) (askX S sf x now) ∧ AskOk sf (askX S sf x now) ∧ (askX S sf x now).u = x.u ∧ (askX S sf x now).d = now + 4 ∧ (askX S sf x now).t.toNat = askT x := by
  have hlt := askT_lt h.ok
  have h1 : (askR S sf x).2 = true := bestS_some hs hlt h.sub (by rw [h.n]; exact hk)
  obtain ⟨a1, a2, a3⟩ := askX_ok (now := now) h.ok h1
  have e : askX S sf x now = { x with p := (askR S sf x).1, d := now + 4, t := askT x, g := false } := by unfold askX; rw [if_pos h1]
  have et : (askX S sf x now).t.toNat = askT x := by rw [e]; exact Int.toNat_natCast _
  have hT := askT_of a1
  have hno := a1.no
  rw [et] at hT hno
  obtain ⟨p0, p6⟩ := isP_in a1.p
  have hpf := a1.p
  unfold isP at hpf
  obtain ⟨_, _, c⟩ := of_decide_eq_true hpf
  refine ⟨h1, ⟨a2, ?_, ?_⟩, a1, a3, by rw [e], et⟩
  · rw [hT]
    exact h.sub.or (peer_sub sf hs _ (by omega) (fun e => c (by omega)))
  · rw [hT, pc_add _ hlt _ (by omega) hno, h.n]
theorem due_no {sf : Nat} (hs : sf < 6) {x : Fd} (h : PX sf 5 x) (S : List Int) : (askR S sf x).2 = false ∧ askT x = full sf :=
  ⟨bestS_none hs (askT_lt h.ok) h.sub h.n, none_left sf hs _ (askT_lt h.ok) h.sub h.n⟩
/-- One by one. -/
inductive PW (R : Fd → Fd → Prop) : List Fd → List Fd → Prop
  | nil : PW R [] []
  | cons {x y : Fd} {l m : List Fd} : R x y → PW R l m → PW R (x :: l) (y :: m)
theorem PW.us {R : Fd → Fd → Prop} (hR : ∀ x y, R x y → y.u = x.u) : ∀ {l m : List Fd}, PW R l m → m.map (·.u) = l.map (·.u)
  | _, _, .nil => rfl
  | _, _, .cons h t => by rw [List.map_cons, List.map_cons, hR _ _ h, PW.us hR t]
theorem PW.mem {R : Fd → Fd → Prop} : ∀ {l m : List Fd}, PW R l m → ∀ y ∈ m, ∃ x ∈ l, R x y
  | _, _, .nil, y, hy => by cases hy
  | _, _, .cons h t, y, hy => by
    rcases List.mem_cons.1 hy with rfl | hy
    · exact ⟨_, List.mem_cons_self, h⟩
    · obtain ⟨x, hx, hr⟩ := PW.mem t y hy
      exact ⟨x, List.mem_cons_of_mem _ hx, hr⟩
structure RA (sf k : Nat) (now : Int) (x y : Fd) : Prop where
  px : PX sf (k + 1) y
  ak : AskOk sf y
  u : y.u = x.u
  d : y.d = now + 4
  t : y.t.toNat = askT x
theorem fold_ask {sf k : Nat} (hs : sf < 6) (hk : k < 5) (now : Int) : ∀ (l : List Fd) (r : RS), (∀ x ∈ l, PX sf k x ∧ x.d ≤ now) →
    ∃ l1, PW (RA sf k now) l l1 ∧ (l.foldl (rnd1 sf now) r).H = r.H ∧ (l.foldl (rnd1 sf now) r).left = r.left ++ l1 ∧ (l.foldl (rnd1 sf now) r).asked = r.asked ++ l1.map (toldX r.H)
  | [], r, _ => ⟨[], .nil, rfl, (List.append_nil _).symm, (List.append_nil _).symm⟩
  | x :: l, r, h => by
    obtain ⟨h1, h2⟩ := h x List.mem_cons_self
    obtain ⟨a1, a2, a3, a4, a5, a6⟩ := due_ok hs h1 hk r.S now
    rw [List.foldl_cons, rnd1_ok h2 a1]
    obtain ⟨l1, b1, b2, b3, b4⟩ := fold_ask hs hk now l ⟨askS r.S sf x, r.H, r.left ++ [askX r.S sf x now], r.asked ++ [toldX r.H (askX r.S sf x now)]⟩ (fun y hy => h y (List.mem_cons_of_mem _ hy))
    exact ⟨askX r.S sf x now :: l1, .cons ⟨a2, a3, a4, a5, a6⟩ b1, b2, by rw [b3]; simp, by rw [b4]; simp⟩
theorem fold_wait {sf : Int} (now : Int) : ∀ (l : List Fd) (r : RS), (∀ x ∈ l, ¬ x.d ≤ now) → l.foldl (rnd1 sf now) r = ⟨r.S, r.H, r.left ++ l, r.asked⟩
  | [], r, _ => by rw [List.append_nil]; rfl
  | x :: l, r, h => by
    rw [List.foldl_cons, rnd1_not (h x List.mem_cons_self), fold_wait now l _ (fun y hy => h y (List.mem_cons_of_mem _ hy))]
    simp
theorem rnd1_hmono (sf now : Int) (r : RS) (x : Fd) {u : Wd} (h : u ∈ r.H) : u ∈ (rnd1 sf now r x).H := by
  unfold rnd1
  split
  · split
    · exact h
    · exact (IdL.mem_setL _ _).2 (List.mem_append_left _ h)
  · exact h
theorem fold_hmono {sf now : Int} {u : Wd} : ∀ (l : List Fd) (r : RS), u ∈ r.H → u ∈ (l.foldl (rnd1 sf now) r).H
  | [], _, h => h
  | x :: l, r, h => by rw [List.foldl_cons]; exact fold_hmono l _ (rnd1_hmono sf now r x h)
theorem fold_srt {sf now : Int} : ∀ (l : List Fd) (r : RS), IdL.Srt r.H → IdL.Srt (l.foldl (rnd1 sf now) r).H
  | [], _, h => h
  | x :: l, r, h => by
    rw [List.foldl_cons]
    refine fold_srt l _ ?_
    unfold rnd1
    split
    · split
      · exact h
      · exact IdL.setL_srt _
    · exact h
theorem fold_drop {sf : Nat} (hs : sf < 6) (now : Int) : ∀ (l : List Fd) (r : RS), (∀ x ∈ l, PX sf 5 x ∧ x.d ≤ now) →
    (l.foldl (rnd1 sf now) r).left = r.left ∧ (l.foldl (rnd1 sf now) r).asked = r.asked ∧ ∀ x ∈ l, x.u ∈ (l.foldl (rnd1 sf now) r).H
  | [], r, _ => ⟨rfl, rfl, fun x hx => by cases hx⟩
  | x :: l, r, h => by
    obtain ⟨h1, h2⟩ := h x List.mem_cons_self
    rw [List.foldl_cons, rnd1_no h2 (due_no hs h1 r.S).1]
    obtain ⟨b1, b2, b3⟩ := fold_drop hs now l ⟨askS r.S sf x, IdL.setL (r.H ++ [x.u]), r.left, r.asked⟩ (fun y hy => h y (List.mem_cons_of_mem _ hy))
    refine ⟨b1, b2, fun y hy => ?_⟩
    rcases List.mem_cons.1 hy with rfl | hy
    · exact fold_hmono l _ ((IdL.mem_setL _ _).2 (List.mem_append_right _ (List.mem_singleton.2 rfl)))
    · exact b3 y hy
/-! ### New ones. -/
def nxtU (U ms : List Wd) (at_ : Nat) : Nat → Option Nat
  | 0 => none
  | k + 1 => match nxtU U ms at_ k with
    | some j => some j
    | none => if decide (ms.getD ((at_ + k) % ms.length) [] ∈ U) = false then some ((at_ + k) % ms.length) else none
def fillU (ms : List Wd) (n : Nat) : Nat → List Wd → Nat → List Wd × Nat
  | 0, U, a => (U, a)
  | k + 1, U, a => if U.length < 8 then
      match nxtU U ms a ms.length with
      | none => (U, a)
      | some j => if (ms.getD j []).length = 32 then fillU ms n k (U ++ [ms.getD j []]) ((j + 1) % n) else (U, a)
    else (U, a)
theorem isIn_u (L : List Fd) (u : Wd) : isIn L u = decide (u ∈ L.map (·.u)) := by
  rw [Bool.eq_iff_iff, isIn_iff, decide_eq_true_eq, List.mem_map]
theorem nxtK_u (L : List Fd) (ms : List Wd) (a : Nat) : ∀ k, nxtK L ms a k = nxtU (L.map (·.u)) ms a k
  | 0 => rfl
  | k + 1 => by
    unfold nxtK nxtU
    rw [nxtK_u L ms a k, isIn_u]
    rfl
theorem fillF_u {ms : List Wd} {now : Int} {n : Nat} : ∀ (k : Nat) (L : List Fd) (a : Nat), (fillF ms now n k L a).1.map (·.u) = (fillU ms n k (L.map (·.u)) a).1 ∧ (fillF ms now n k L a).2 = (fillU ms n k (L.map (·.u)) a).2
  | 0, L, a => ⟨rfl, rfl⟩
  | k + 1, L, a => by
    unfold fillF fillU nxt
    rw [List.length_map, nxtK_u]
    by_cases h8 : L.length < 8
    · rw [if_pos h8, if_pos h8]
      cases hj : nxtU (L.map (·.u)) ms a ms.length with
      | none => exact ⟨rfl, rfl⟩
      | some j =>
        by_cases hu : (ms.getD j []).length = 32
        · simp only [dif_pos hu, if_pos hu]
          have := fillF_u (ms := ms) (now := now) (n := n) k (L ++ [newF (ms.getD j []) hu now]) ((j + 1) % n)
          rw [List.map_append] at this
          exact this
        · simp only [dif_neg hu, if_neg hu]
          first | exact ⟨rfl, trivial⟩ | exact ⟨trivial, rfl⟩ | exact ⟨trivial, trivial⟩
    · rw [if_neg h8, if_neg h8]
      exact ⟨rfl, rfl⟩
theorem fillF_new {ms : List Wd} {now : Int} {n : Nat} : ∀ (k : Nat) (L : List Fd) (a : Nat), ∃ E, (fillF ms now n k L a).1 = L ++ E ∧ ∀ e ∈ E, e.p = -1 ∧ e.t = 0 ∧ e.d = now
  | 0, L, a => ⟨[], (List.append_nil _).symm, fun e he => by cases he⟩
  | k + 1, L, a => by
    unfold fillF
    split
    · split
      · exact ⟨[], (List.append_nil _).symm, fun e he => by cases he⟩
      · split
        · rename_i j hj hu
          obtain ⟨E, h1, h2⟩ := fillF_new (ms := ms) (now := now) (n := n) k (L ++ [newF (ms.getD j []) hu now]) ((j + 1) % n)
          refine ⟨newF (ms.getD j []) hu now :: E, by rw [h1]; simp, fun e he => ?_⟩
          rcases List.mem_cons.1 he with rfl | he
          · exact ⟨rfl, rfl, rfl⟩
          · exact h2 e he
        · exact ⟨[], (List.append_nil _).symm, fun e he => by cases he⟩
    · exact ⟨[], (List.append_nil _).symm, fun e he => by cases he⟩
def idN (i : Nat) : Wd := UInt8.ofNat (i + 1) :: List.replicate 31 0
def idsN (n : Nat) : List Wd := (List.range n).map idN
def ixU (u : Wd) : Nat := (u.getD 0 0).toNat - 1
def batch (n a : Nat) : List Wd := (List.range (min n 8)).map fun j => idN ((a + j) % n)
theorem once_ids : ∀ n < 13, onceL (idsN n) = idsN n := by decide +kernel
theorem ids_srt : ∀ n < 13, IdL.Srt (idsN n) := by unfold IdL.Srt; decide +kernel
theorem ix_id : ∀ i < 12, ixU (idN i) = i := by decide +kernel
theorem fill_empty : ∀ n < 13, ∀ a < n, fillU (idsN n) n 8 [] a = (batch n a, (a + min n 8) % n) := by decide +kernel
theorem fill_batch : ∀ n < 13, ∀ a < n, fillU (idsN n) n 8 (batch n a) ((a + min n 8) % n) = (batch n a, (a + min n 8) % n) := by decide +kernel
theorem ids_len (n : Nat) : (idsN n).length = n := by unfold idsN; simp
theorem mem_ids {n : Nat} {u : Wd} : u ∈ idsN n ↔ ∃ i, i < n ∧ idN i = u := by unfold idsN; simp
theorem mem_batch {n a : Nat} {u : Wd} (hn : 0 < n) (h : u ∈ batch n a) : ∃ i, i < n ∧ idN i = u := by
  unfold batch at h
  obtain ⟨j, _, rfl⟩ := List.mem_map.1 h
  exact ⟨_, Nat.mod_lt _ hn, rfl⟩
theorem idN_len (i : Nat) : (idN i).length = 32 := by unfold idN; simp
/-! ### What was asked of whom. -/
def tick (tr : List Nat) (y : Fd) : List Nat := tr.set (ixU y.u) (tr.getD (ixU y.u) 0 ||| 2 ^ y.p.toNat)
theorem tick_len (tr : List Nat) (y : Fd) : (tick tr y).length = tr.length := List.length_set
theorem tick_at (tr : List Nat) (y : Fd) (i : Nat) : (tick tr y).getD i 0 = if i = ixU y.u ∧ i < tr.length then tr.getD i 0 ||| 2 ^ y.p.toNat else tr.getD i 0 := by
  unfold tick
  rw [List.getD_eq_getElem?_getD, List.getElem?_set]
  by_cases e : ixU y.u = i
  · subst e
    by_cases hl : ixU y.u < tr.length
    · rw [if_pos rfl, if_pos hl, if_pos ⟨rfl, hl⟩]; rfl
    · rw [if_pos rfl, if_neg hl, if_neg (fun h => hl h.2), List.getD_eq_getElem?_getD, List.getElem?_eq_none (by omega)]
  · rw [if_neg e, if_neg (fun h => e h.1.symm), List.getD_eq_getElem?_getD]
theorem tick_mono (tr : List Nat) (y : Fd) (i : Nat) : Sb (tr.getD i 0) ((tick tr y).getD i 0) := by
  rw [tick_at]
  split
  · exact Sb.left _ _
  · exact Sb.refl _
theorem ticks_len : ∀ (l : List Fd) (tr : List Nat), (l.foldl tick tr).length = tr.length
  | [], _ => rfl
  | y :: l, tr => by rw [List.foldl_cons, ticks_len l, tick_len]
theorem ticks_mono (i : Nat) : ∀ (l : List Fd) (tr : List Nat), Sb (tr.getD i 0) ((l.foldl tick tr).getD i 0)
  | [], _ => Sb.refl _
  | y :: l, tr => by rw [List.foldl_cons]; exact (tick_mono tr y i).trans (ticks_mono i l _)
theorem ticks_has : ∀ (l : List Fd) (tr : List Nat) (y : Fd), y ∈ l → ixU y.u < tr.length → Sb (2 ^ y.p.toNat) ((l.foldl tick tr).getD (ixU y.u) 0)
  | [], _, y, h, _ => by cases h
  | z :: l, tr, y, h, hl => by
    rw [List.foldl_cons]
    rcases List.mem_cons.1 h with rfl | h
    · refine Sb.trans ?_ (ticks_mono _ l _)
      rw [tick_at, if_pos ⟨rfl, hl⟩]
      exact Sb.right _ _
    · exact ticks_has l _ y h (by rw [tick_len]; exact hl)
theorem ticks_sub {sf : Nat} (hs : sf < 6) (i : Nat) : ∀ (l : List Fd) (tr : List Nat), (∀ y ∈ l, AskOk sf y) → Sb (tr.getD i 0) (full sf) → Sb ((l.foldl tick tr).getD i 0) (full sf)
  | [], _, _, h => h
  | y :: l, tr, hy, h => by
    rw [List.foldl_cons]
    refine ticks_sub hs i l _ (fun z hz => hy z (List.mem_cons_of_mem _ hz)) ?_
    rw [tick_at]
    split
    · have hp := (hy y List.mem_cons_self).p
      obtain ⟨p0, p6⟩ := isP_in hp
      unfold isP at hp
      obtain ⟨_, _, c⟩ := of_decide_eq_true hp
      exact h.or (peer_sub sf hs _ (by omega) (fun e => c (by omega)))
    · exact h
/-! ### Round upon round. -/
structure Q where
  S : List Int
  H : List Wd
  L : List Fd
  a : Nat
  tr : List Nat
def stepQ (sf : Int) (n now : Nat) (q : Q) : Q := ⟨(roundR sf now (idsN n) q.S q.H q.L q.a).S, (roundR sf now (idsN n) q.S q.H q.L q.a).H, (roundR sf now (idsN n) q.S q.H q.L q.a).left, (L2of (idsN n) now q.L q.a).2, (roundR sf now (idsN n) q.S q.H q.L q.a).asked.foldl tick q.tr⟩
def stQ (sf : Int) (n : Nat) (q : Q) : Nat → Q
  | 0 => q
  | r + 1 => stepQ sf n r (stQ sf n q r)
/-- What is so at all times. -/
structure Gl (sf n : Nat) (q : Q) : Prop where
  b : BInv q.L q.H q.S sf q.a
  s : IdL.Srt q.H
  m : ∀ u ∈ q.H, u ∈ idsN n
  l : q.tr.length = n
  f : ∀ i, Sb (q.tr.getD i 0) (full sf)
theorem clk_nat {now : Nat} (h : now ≤ 100) : clk now = now := by unfold clk; omega
theorem askd {sf n now : Nat} (hn : n < 13) (hnow : now ≤ 100) {q : Q} (h : Gl sf n q) : BInv (stepQ sf n now q).L (stepQ sf n now q).H (stepQ sf n now q).S sf (stepQ sf n now q).a ∧ ∀ y ∈ (roundR sf now (idsN n) q.S q.H q.L q.a).asked, AskOk sf y ∧ y.u ∈ idsN n := by
  have := h.b.round (now : Int) (l := idsN n) (by rw [ids_len]; omega)
  rw [once_ids n hn] at this
  exact this
theorem Gl.step {sf n now : Nat} (hs : sf < 6) (hn : n < 13) (hnow : now ≤ 100) {q : Q} (h : Gl sf n q) : Gl sf n (stepQ sf n now q) := by
  obtain ⟨b1, b2⟩ := askd hn hnow h
  have hml : (idsN n).length ≤ 20 := by rw [ids_len]; omega
  refine ⟨b1, ?_, ?_, ?_, fun i => ?_⟩
  · refine fold_srt _ _ ?_
    exact h.s.sublist List.filter_sublist
  · have hf := h.b.filter (inL (idsN n)) (inH (idsN n)) h.b.sc
    obtain ⟨_, _, b3⟩ := fillF_inv (ms := idsN n) (now := now) (n := (idsN n).length) 8 (q.L.filter (inL (idsN n))) q.a hf.len hf.nd (fun x hx => of_decide_eq_true (List.mem_filter.1 hx).2)
    have b4 := fillF_ok (ms := idsN n) (now := now) (n := (idsN n).length) 8 (q.L.filter (inL (idsN n))) q.a hf.ok
    have r0 : RInv sf (idsN n) [] ⟨q.S, q.H.filter (inH (idsN n)), [], []⟩ := ⟨List.Sublist.refl _, fun x hx => (by cases hx), fun x hx => (by cases hx), hf.hn, fun u hu => of_decide_eq_true (List.mem_filter.1 hu).2, h.b.sc⟩
    exact (foldR_inv (now := (now : Int)) _ [] _ r0 (fun x hx => ⟨b4 x hx, b3 x hx⟩)).hm
  · exact (ticks_len _ _).trans h.l
  · exact ticks_sub hs i _ _ (fun y hy => (b2 y hy).1) (h.f i)
theorem Gl.st {sf n : Nat} (hs : sf < 6) (hn : n < 13) {q : Q} (h : Gl sf n q) : ∀ r, r ≤ 100 → Gl sf n (stQ sf n q r)
  | 0, _ => h
  | r + 1, hr => (h.st hs hn r (by omega)).step hs hn (by omega)
/-- An id that is through. -/
def Dn (sf : Nat) (q : Q) (i : Nat) : Prop := q.tr.getD i 0 = full sf ∧ idN i ∈ q.H
theorem Dn.step {sf n now i : Nat} (hs : sf < 6) (hn : n < 13) (hnow : now ≤ 100) {q : Q} (g : Gl sf n q) (h : Dn sf q i) : Dn sf (stepQ sf n now q) i := by
  refine ⟨?_, ?_⟩
  · have h1 := (g.step hs hn hnow).f i
    have h2 := ticks_mono i (roundR sf now (idsN n) q.S q.H q.L q.a).asked q.tr
    rw [h.1] at h2
    exact h1.anti h2
  · refine fold_hmono _ _ (List.mem_filter.2 ⟨h.2, decide_eq_true (g.m _ h.2)⟩)
theorem Dn.st {sf n i : Nat} (hs : sf < 6) (hn : n < 13) {q : Q} (g : Gl sf n q) (r : Nat) (h : Dn sf (stQ sf n q r) i) : ∀ m, r ≤ m → m ≤ 100 → Dn sf (stQ sf n q m) i
  | 0, h1, _ => by obtain rfl : r = 0 := by omega
                   exact h
  | m + 1, h1, h2 => by
    rcases Nat.lt_or_ge m r with h3 | h3
    · obtain rfl : r = m + 1 := by omega
      exact h
    · exact Dn.step hs hn (by omega) (g.st hs hn m (by omega)) (Dn.st hs hn g r h m h3 (by omega))
/-- One batch, after so many questions. -/
structure Ph (sf n a s k : Nat) (q : Q) : Prop where
  us : q.L.map (·.u) = batch n a
  px : ∀ x ∈ q.L, PX sf k x ∧ x.d = ((s + 4 * k : Nat) : Int)
  tk : ∀ x ∈ q.L, Sb (askT x) (q.tr.getD (ixU x.u) 0)
  at_ : q.a = (a + min n 8) % n
theorem L2_batch {n a now : Nat} (hn : n < 13) (ha : a < n) {q : Q} (hu : q.L.map (·.u) = batch n a) (hq : q.a = (a + min n 8) % n) : L2of (idsN n) now q.L q.a = (q.L, q.a) := by
  have hf : q.L.filter (inL (idsN n)) = q.L := List.filter_eq_self.2 fun x hx => decide_eq_true (mem_ids.2 (mem_batch (by omega) (by rw [← hu]; exact List.mem_map_of_mem hx)))
  unfold L2of
  rw [hf, ids_len]
  obtain ⟨u1, u2⟩ := fillF_u (ms := idsN n) (now := now) (n := n) 8 q.L q.a
  rw [hu, hq, fill_batch n hn a ha] at u1 u2
  obtain ⟨E, e1, _⟩ := fillF_new (ms := idsN n) (now := now) (n := n) 8 q.L q.a
  have hE : E = [] := by
    rw [hq] at e1
    rw [e1, ← hu, List.map_append] at u1
    have := congrArg List.length u1
    simp at this
    exact this
  subst hE
  rw [List.append_nil] at e1
  refine Prod.ext e1 ?_
  rw [← hq] at u2
  exact u2
theorem L2_empty {n a now : Nat} (hn : n < 13) (ha : a < n) {q : Q} (hL : q.L = []) (hq : q.a = a) : (L2of (idsN n) now q.L q.a).1.map (·.u) = batch n a ∧ (L2of (idsN n) now q.L q.a).2 = (a + min n 8) % n ∧ ∀ e ∈ (L2of (idsN n) now q.L q.a).1, e.p = -1 ∧ e.t = 0 ∧ e.d = now := by
  unfold L2of
  rw [hL, hq, ids_len]
  obtain ⟨u1, u2⟩ := fillF_u (ms := idsN n) (now := now) (n := n) 8 [] a
  rw [List.map_nil, fill_empty n hn a ha] at u1 u2
  obtain ⟨E, e1, e2⟩ := fillF_new (ms := idsN n) (now := now) (n := n) 8 [] a
  rw [List.nil_append] at e1
  refine ⟨u1, u2, fun e he => e2 e ?_⟩
  rw [← e1]
  exact he
/-- All are asked for. -/
theorem ask_all {sf n a s k now : Nat} (hs : sf < 6) (hn : n < 13) (ha : a < n) (hk : k < 5) {q : Q} (g : Gl sf n q) (h1 : (L2of (idsN n) now q.L q.a).1.map (·.u) = batch n a) (h2 : (L2of (idsN n) now q.L q.a).2 = (a + min n 8) % n)
    (h3 : ∀ x ∈ (L2of (idsN n) now q.L q.a).1, PX sf k x ∧ x.d ≤ (now : Int) ∧ Sb (askT x) (q.tr.getD (ixU x.u) 0)) (hnow : now = s + 4 * k) : Ph sf n a s (k + 1) (stepQ sf n now q) := by
  obtain ⟨l1, b1, b2, b3, b4⟩ := fold_ask hs hk (now : Int) (L2of (idsN n) now q.L q.a).1 ⟨q.S, q.H.filter (inH (idsN n)), [], []⟩ (fun x hx => ⟨(h3 x hx).1, (h3 x hx).2.1⟩)
  have e3 : (stepQ sf n now q).L = l1 := b3
  have e4 : (roundR sf now (idsN n) q.S q.H q.L q.a).asked = l1.map (toldX (q.H.filter (inH (idsN n)))) := b4
  have hu : l1.map (·.u) = batch n a := (b1.us fun _ _ h => h.u).trans h1
  refine ⟨by rw [e3]; exact hu, fun y hy => ?_, fun y hy => ?_, h2⟩
  · rw [e3] at hy
    obtain ⟨x, _, hr⟩ := b1.mem y hy
    refine ⟨hr.px, ?_⟩
    rw [hr.d, hnow]
    omega
  · rw [e3] at hy
    obtain ⟨x, hx, hr⟩ := b1.mem y hy
    rw [askT_of hr.ak, hr.t]
    have hi : ixU y.u < q.tr.length := by
      obtain ⟨i, hi, he⟩ := mem_batch (n := n) (a := a) (u := y.u) (by omega) (by rw [← hu]; exact List.mem_map_of_mem hy)
      rw [← he, ix_id i (by omega), g.l]
      exact hi
    refine Sb.or ?_ ?_
    · have := (h3 x hx).2.2
      rw [← hr.u] at this
      exact this.trans (ticks_mono _ _ _)
    · have hm : toldX (q.H.filter (inH (idsN n))) y ∈ (roundR sf now (idsN n) q.S q.H q.L q.a).asked := by rw [e4]; exact List.mem_map_of_mem hy
      exact ticks_has _ q.tr (toldX (q.H.filter (inH (idsN n))) y) hm hi
theorem Ph.first {sf n a s : Nat} (hs : sf < 6) (hn : n < 13) (ha : a < n) {q : Q} (g : Gl sf n q) (hL : q.L = []) (hq : q.a = a) : Ph sf n a s 1 (stepQ sf n s q) := by
  obtain ⟨h1, h2, h3⟩ := L2_empty (now := s) hn ha hL hq
  refine ask_all (k := 0) hs hn ha (by decide) g h1 h2 (fun x hx => ?_) (by omega)
  obtain ⟨e1, e2, e3⟩ := h3 x hx
  have eT : askT x = 0 := by unfold askT; rw [if_pos e1, e2]; rfl
  refine ⟨⟨⟨.inl e1, by rw [e2]; decide⟩, by rw [eT]; exact Sb.zero _, by rw [eT]; decide⟩, by rw [e3]; exact Int.le_refl _, by rw [eT]; exact Sb.zero _⟩
theorem Ph.wait {sf n a s k now : Nat} (hn : n < 13) (ha : a < n) {q : Q} (h : Ph sf n a s k q) (hw : now < s + 4 * k) : Ph sf n a s k (stepQ sf n now q) := by
  have h2 := L2_batch (now := now) hn ha h.us h.at_
  have hw2 : ∀ x ∈ q.L, ¬ x.d ≤ (now : Int) := fun x hx => by rw [(h.px x hx).2]; omega
  have e : roundR sf now (idsN n) q.S q.H q.L q.a = ⟨q.S, q.H.filter (inH (idsN n)), q.L, []⟩ := by
    unfold roundR
    rw [h2, fold_wait (now : Int) q.L _ hw2]
    rfl
  have eS : stepQ sf n now q = ⟨q.S, q.H.filter (inH (idsN n)), q.L, q.a, q.tr⟩ := by
    unfold stepQ
    rw [e, h2]
    rfl
  rw [eS]
  exact ⟨h.us, h.px, h.tk, h.at_⟩
theorem Ph.ask {sf n a s k now : Nat} (hs : sf < 6) (hn : n < 13) (ha : a < n) (hk : k < 5) {q : Q} (g : Gl sf n q) (h : Ph sf n a s k q) (hnow : now = s + 4 * k) : Ph sf n a s (k + 1) (stepQ sf n now q) := by
  have h2 := L2_batch (now := now) hn ha h.us h.at_
  refine ask_all hs hn ha hk g (by rw [h2]; exact h.us) (by rw [h2]; exact h.at_) (fun x hx => ?_) hnow
  rw [h2] at hx
  refine ⟨(h.px x hx).1, ?_, h.tk x hx⟩
  rw [(h.px x hx).2, hnow]
  exact Int.le_refl _
theorem Ph.drop {sf n a s now : Nat} (hs : sf < 6) (hn : n < 13) (ha : a < n) {q : Q} (g : Gl sf n q) (h : Ph sf n a s 5 q) (hnow : now = s + 20) (h100 : now ≤ 100) : (stepQ sf n now q).L = [] ∧ (stepQ sf n now q).a = (a + min n 8) % n ∧ ∀ i, i < n → idN i ∈ batch n a → Dn sf (stepQ sf n now q) i := by
  have h2 := L2_batch (now := now) hn ha h.us h.at_
  have hd : ∀ x ∈ (L2of (idsN n) now q.L q.a).1, PX sf 5 x ∧ x.d ≤ (now : Int) := fun x hx => by
    rw [h2] at hx
    refine ⟨(h.px x hx).1, ?_⟩
    rw [(h.px x hx).2, hnow]
    exact Int.le_refl _
  obtain ⟨b1, b2, b3⟩ := fold_drop hs (now : Int) (L2of (idsN n) now q.L q.a).1 ⟨q.S, q.H.filter (inH (idsN n)), [], []⟩ hd
  refine ⟨b1, ?_, fun i hi hm => ?_⟩
  · show (L2of (idsN n) now q.L q.a).2 = _
    rw [h2]
    exact h.at_
  · rw [← h.us] at hm
    obtain ⟨x, hx, hu⟩ := List.mem_map.1 hm
    refine ⟨?_, ?_⟩
    · have h1 := (due_no hs (h.px x hx).1 q.S).2
      have h3 := h.tk x hx
      rw [h1, hu, ix_id i (by omega)] at h3
      exact Sb.anti ((g.step hs hn h100).f i) (h3.trans (ticks_mono _ _ _))
    · have := b3 x (by rw [h2]; exact hx)
      rw [hu] at this
      exact this
theorem Ph.run {sf n a s : Nat} (hs : sf < 6) (hn : n < 13) (ha : a < n) {q : Q} (g : Gl sf n q) (hL : (stQ sf n q s).L = []) (hq : (stQ sf n q s).a = a) (hs' : s ≤ 60) : ∀ r, r < 20 → Ph sf n a s (r / 4 + 1) (stQ sf n q (s + r + 1))
  | 0, _ => Ph.first hs hn ha (g.st hs hn s (by omega)) hL hq
  | r + 1, hr => by
    have h := Ph.run hs hn ha g hL hq hs' r (by omega)
    show Ph sf n a s ((r + 1) / 4 + 1) (stepQ sf n (s + (r + 1)) (stQ sf n q (s + r + 1)))
    by_cases h4 : (r + 1) % 4 = 0
    · have e : (r + 1) / 4 = r / 4 + 1 := by omega
      rw [e]
      exact h.ask hs hn ha (by omega) (g.st hs hn _ (by omega)) (by omega)
    · have e : (r + 1) / 4 = r / 4 := by omega
      rw [e]
      exact h.wait hn ha (by omega)
theorem Ph.end_ {sf n a s : Nat} (hs : sf < 6) (hn : n < 13) (ha : a < n) {q : Q} (g : Gl sf n q) (hL : (stQ sf n q s).L = []) (hq : (stQ sf n q s).a = a) (hs' : s ≤ 60) : (stQ sf n q (s + 21)).L = [] ∧ (stQ sf n q (s + 21)).a = (a + min n 8) % n ∧ ∀ i, i < n → idN i ∈ batch n a → Dn sf (stQ sf n q (s + 21)) i :=
  (Ph.run hs hn ha g hL hq hs' 19 (by decide)).drop hs hn ha (g.st hs hn _ (by omega)) rfl (by omega)
theorem covered : ∀ n < 13, ∀ i < n, idN i ∈ batch n 0 ∨ idN i ∈ batch n ((0 + min n 8) % n) := by decide +kernel
/-- At the end each id was asked of all, and is withheld. -/
theorem all_done {sf n : Nat} (hs : sf < 6) (hn : n < 13) (hn0 : 0 < n) {q : Q} (g : Gl sf n q) (hL : q.L = []) (hq : q.a = 0) {m : Nat} (h1 : 42 ≤ m) (h2 : m ≤ 100) : (∀ i, i < n → (stQ sf n q m).tr.getD i 0 = full sf) ∧ (stQ sf n q m).H = idsN n := by
  obtain ⟨a1, a2, a3⟩ := Ph.end_ (s := 0) hs hn hn0 g hL hq (by decide)
  obtain ⟨_, _, c3⟩ := Ph.end_ (s := 0 + 21) hs hn (Nat.mod_lt _ hn0) g a1 a2 (by decide)
  have hd : ∀ i, i < n → Dn sf (stQ sf n q m) i := fun i hi => by
    rcases covered n hn i hi with h | h
    · exact Dn.st hs hn g _ (a3 i hi h) m (by omega) h2
    · exact Dn.st hs hn g _ (c3 i hi h) m (by omega) h2
  have gm := g.st hs hn m h2
  refine ⟨fun i hi => (hd i hi).1, IdL.srt_unique _ _ gm.s (ids_srt n hn) fun u => ⟨gm.m u, fun hu => ?_⟩⟩
  obtain ⟨i, hi, rfl⟩ := mem_ids.1 hu
  exact (hd i hi).2
end Fe
end Go.Proofs.Ytgllkfolckbdhaa
