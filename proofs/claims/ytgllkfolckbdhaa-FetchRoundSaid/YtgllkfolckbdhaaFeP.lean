/-
  fetch: what stays so; plain law.
-/
import Derived.Test.YtgllkfolckbdhaaFeG
set_option linter.unusedVariables false
set_option linter.unusedSimpArgs false
namespace Go.Proofs.Ytgllkfolckbdhaa
open Go.RowKit
namespace Fe
open Oct Ids Mp
/-- What is found was not tried, and is a peer. -/
theorem best_ok (S : List Int) (m : Nat) : ∀ (l : List Int) (acc : Int × Bool), (acc.2 = true → m.testBit acc.1.toNat = false ∧ acc.1 ∈ l ∨ acc.2 = true → True) → ∀ (P : Int → Prop), (acc.2 = true → P acc.1 ∧ m.testBit acc.1.toNat = false) → (∀ p ∈ l, P p) → (l.foldl (bstep S m) acc).2 = true → P (l.foldl (bstep S m) acc).1 ∧ m.testBit (l.foldl (bstep S m) acc).1.toNat = false
  | [], acc, _, P, ha, _, h => ha h
  | p :: l, acc, h0, P, ha, hl, h => by
    rw [List.foldl_cons] at h ⊢
    refine best_ok S m l _ (fun _ _ => trivial) P (fun h2 => ?_) (fun q hq => hl q (List.mem_cons_of_mem _ hq)) h
    unfold bstep at h2 ⊢
    split
    · rename_i hc
      exact ⟨hl p List.mem_cons_self, hc.1⟩
    · rename_i hc
      rw [if_neg hc] at h2
      exact ha h2
theorem bestS_ok {S : List Int} {sf : Int} {m : Nat} (h : (bestS S sf m).2 = true) : isP sf (bestS S sf m).1 = true ∧ m.testBit (bestS S sf m).1.toNat = false :=
  best_ok S m (prs sf) (0, false) (fun _ _ => trivial) (fun p => isP sf p = true) (fun h => by cases h) (fun p hp => prs_mem.1 hp) h
theorem isP_in {sf p : Int} (h : isP sf p = true) : 0 ≤ p ∧ p < 6 := by
  unfold isP at h
  have := of_decide_eq_true h
  omega
/-- A fetching that was asked for. -/
structure AskOk (sf : Int) (y : Fd) : Prop where
  p : isP sf y.p = true
  t : 0 ≤ y.t ∧ y.t < 64
  no : y.t.toNat.testBit y.p.toNat = false
theorem askX_ok {S : List Int} {sf : Int} {x : Fd} {now : Int} (hx : XOk x) (h : (askR S sf x).2 = true) : AskOk sf (askX S sf x now) ∧ XOk (askX S sf x now) ∧ (askX S sf x now).u = x.u := by
  obtain ⟨h1, h2⟩ := bestS_ok h
  have h3 := askT_lt hx
  have e : askX S sf x now = { x with p := (askR S sf x).1, d := now + 4, t := askT x, g := false } := by unfold askX; rw [if_pos h]
  have ht : (0 : Int) ≤ (askT x : Int) ∧ (askT x : Int) < 64 := by omega
  rw [e]
  exact ⟨⟨h1, ht, h2⟩, ⟨.inr (isP_in h1), ht⟩, rfl⟩
theorem told_ok {sf : Int} {H : List Wd} {y : Fd} (h : AskOk sf y) : AskOk sf (toldX H y) := ⟨h.p, h.t, h.no⟩
theorem srt_nodup {l : List Wd} (h : IdL.Srt l) : l.Nodup := List.Pairwise.imp (fun {a b} h e => by subst e; rw [IdL.cmpL_refl] at h; omega) h
theorem setL_nodup (l : List Wd) : (IdL.setL l).Nodup := srt_nodup (IdL.setL_srt l)
theorem setL_len_of {l : List Wd} (h : l.Nodup) : (IdL.setL l).length = l.length :=
  ((List.perm_ext_iff_of_nodup (setL_nodup l) h).2 fun u => IdL.mem_setL _ _).length_eq
theorem nodup_len : ∀ {l m : List Wd}, l.Nodup → (∀ u ∈ l, u ∈ m) → l.length ≤ m.length
  | [], m, _, _ => Nat.zero_le _
  | x :: l, m, h, hs => by
    have hx := hs x List.mem_cons_self
    have hn := List.nodup_cons.1 h
    have h2 := nodup_len (m := m.erase x) hn.2 (fun u hu => (List.mem_erase_of_ne (fun e : u = x => hn.1 (by rw [← e]; exact hu))).2 (hs u (List.mem_cons_of_mem _ hu)))
    rw [List.length_erase_of_mem hx] at h2
    have := List.length_pos_of_mem hx
    rw [List.length_cons]
    omega
/-- What is so of all that is fetched. -/
structure BInv (L : List Fd) (H : List Wd) (S : List Int) (sf : Int) (a : Nat) : Prop where
  len : L.length ≤ 8
  nd : (L.map (·.u)).Nodup
  ok : ∀ x ∈ L, XOk x
  hl : H.length ≤ 20
  hn : H.Nodup
  sc : SOk S sf
  at_ : a ≤ 500
theorem BInv.start {sf : Int} (h : 0 ≤ sf ∧ sf < 6) : BInv [] [] zeros6 sf 0 := ⟨Nat.zero_le _, List.nodup_nil, fun x hx => (by cases hx), Nat.zero_le _, List.nodup_nil, zeros_ok h, Nat.zero_le _⟩
theorem BInv.chg {L L' : List Fd} {H : List Wd} {S S' : List Int} {sf : Int} {a : Nat} (h : BInv L H S sf a) (c : Chg L L') (hS : SOk S' sf) : BInv L' H S' sf a := by
  have hm : L'.map (·.u) = L.map (·.u) := by
    apply List.ext_getElem?
    intro i
    rw [List.getElem?_map, List.getElem?_map]
    rcases Nat.lt_or_ge i L.length with hi | hi
    · obtain ⟨x', hx'⟩ : ∃ x, L'[i]? = some x := ⟨_, List.getElem?_eq_getElem (by rw [c.len]; exact hi)⟩
      obtain ⟨x, hx, hu, _, _⟩ := c.at_ i x' hx'
      rw [hx', hx]
      exact congrArg some hu
    · rw [List.getElem?_eq_none (by rw [c.len]; exact hi), List.getElem?_eq_none hi]
  refine ⟨by rw [c.len]; exact h.len, by rw [hm]; exact h.nd, fun x' hx' => ?_, h.hl, h.hn, hS, h.at_⟩
  obtain ⟨i, hi⟩ := List.getElem?_of_mem hx'
  obtain ⟨x, hx, _, hp, ht⟩ := c.at_ i x' hi
  obtain ⟨a1, a2⟩ := h.ok x (List.mem_of_getElem? hx)
  exact ⟨by rw [hp]; exact a1, by rw [ht]; exact a2⟩
theorem BInv.filter {L : List Fd} {H : List Wd} {S S' : List Int} {sf : Int} {a : Nat} (h : BInv L H S sf a) (p : Fd → Bool) (q : Wd → Bool) (hS : SOk S' sf) : BInv (L.filter p) (H.filter q) S' sf a :=
  ⟨Nat.le_trans (List.length_filter_le _ _) h.len, ((List.filter_sublist (p := p) (l := L)).map (fun x : Fd => x.u)).nodup h.nd, fun x hx => h.ok x (List.mem_filter.1 hx).1, Nat.le_trans (List.length_filter_le _ _) h.hl, List.filter_sublist.nodup h.hn, hS, h.at_⟩
theorem nxtK_is {L : List Fd} {ms : List Wd} {a j : Nat} : ∀ {k : Nat}, nxtK L ms a k = some j → isIn L (ms.getD j []) = false
  | 0, h => by cases h
  | k + 1, h => by
    unfold nxtK at h
    split at h
    · rename_i j' hj
      cases h
      exact nxtK_is hj
    · split at h
      · rename_i hi
        cases h
        exact hi
      · cases h
/-- Behind 'fill': no more than may be, each once, and new ones out of those that are missing. -/
theorem fillF_inv {ms : List Wd} {now : Int} {n : Nat} : ∀ (k : Nat) (L : List Fd) (a : Nat), L.length ≤ 8 → (L.map (·.u)).Nodup → (∀ x ∈ L, x.u ∈ ms) → (fillF ms now n k L a).1.length ≤ 8 ∧ ((fillF ms now n k L a).1.map (·.u)).Nodup ∧ ∀ x ∈ (fillF ms now n k L a).1, x.u ∈ ms
  | 0, L, a, h1, h2, h3 => ⟨h1, h2, h3⟩
  | k + 1, L, a, h1, h2, h3 => by
    unfold fillF
    split
    · rename_i h8
      split
      · exact ⟨h1, h2, h3⟩
      · rename_i j hj
        split
        · rename_i hu
          have hin := nxtK_is hj
          have hmem : ms.getD j [] ∈ ms := by
            rcases Nat.lt_or_ge j ms.length with hl | hl
            · rw [List.getD, List.getElem?_eq_getElem hl]
              exact List.getElem_mem hl
            · rw [List.getD, List.getElem?_eq_none hl] at hu
              simp at hu
          refine fillF_inv k _ _ (by rw [List.length_append, List.length_singleton]; omega) ?_ (fun x hx => ?_)
          · rw [List.map_append, List.nodup_append]
            refine ⟨h2, by simp, fun u hu2 v hv e => ?_⟩
            simp only [List.map_cons, List.map_nil, List.mem_singleton] at hv
            subst hv e
            obtain ⟨x, hx, hxu⟩ := List.mem_map.1 hu2
            have : isIn L (ms.getD j []) = true := isIn_iff.2 ⟨x, hx, hxu⟩
            rw [hin] at this
            cases this
          · rcases List.mem_append.1 hx with hx | hx
            · exact h3 x hx
            · rw [List.mem_singleton.1 hx]; exact hmem
        · exact ⟨h1, h2, h3⟩
    · exact ⟨h1, h2, h3⟩
structure RInv (sf : Int) (ms : List Wd) (L : List Fd) (r : RS) : Prop where
  sub : (r.left.map (·.u)).Sublist (L.map (·.u))
  ok : ∀ x ∈ r.left, XOk x
  ak : ∀ y ∈ r.asked, AskOk sf y ∧ y.u ∈ ms
  hn : r.H.Nodup
  hm : ∀ u ∈ r.H, u ∈ ms
  S : SOk r.S sf
theorem rnd1_inv {sf now : Int} {ms : List Wd} {L : List Fd} {r : RS} {x : Fd} (h : RInv sf ms L r) (hx : XOk x) (hu : x.u ∈ ms) : RInv sf ms (L ++ [x]) (rnd1 sf now r x) := by
  by_cases hd : x.d ≤ now
  · cases ho : (askR r.S sf x).2 with
    | true =>
      obtain ⟨a1, a2, a3⟩ := askX_ok (now := now) hx ho
      rw [rnd1_ok hd ho]
      refine ⟨?_, fun y hy => ?_, fun y hy => ?_, h.hn, h.hm, askS_ok h.S x⟩
      · simp only [List.map_append, List.map_cons, List.map_nil, a3]
        exact h.sub.append (List.Sublist.refl _)
      · rcases List.mem_append.1 hy with hy | hy
        · exact h.ok y hy
        · rw [List.mem_singleton.1 hy]; exact a2
      · rcases List.mem_append.1 hy with hy | hy
        · exact h.ak y hy
        · rw [List.mem_singleton.1 hy]
          exact ⟨told_ok a1, by show (askX r.S sf x now).u ∈ ms; rw [a3]; exact hu⟩
    | false =>
      rw [rnd1_no hd ho]
      refine ⟨?_, h.ok, h.ak, setL_nodup _, fun u hu' => ?_, askS_ok h.S x⟩
      · rw [List.map_append]
        exact h.sub.trans (List.sublist_append_left _ _)
      · rcases List.mem_append.1 ((IdL.mem_setL _ _).1 hu') with hu' | hu'
        · exact h.hm u hu'
        · rw [List.mem_singleton.1 hu']; exact hu
  · rw [rnd1_not hd]
    refine ⟨?_, fun y hy => ?_, h.ak, h.hn, h.hm, h.S⟩
    · simp only [List.map_append, List.map_cons, List.map_nil]
      exact h.sub.append (List.Sublist.refl _)
    · rcases List.mem_append.1 hy with hy | hy
      · exact h.ok y hy
      · rw [List.mem_singleton.1 hy]; exact hx
theorem foldR_inv {sf now : Int} {ms : List Wd} : ∀ (l L : List Fd) (r : RS), RInv sf ms L r → (∀ x ∈ l, XOk x ∧ x.u ∈ ms) → RInv sf ms (L ++ l) (l.foldl (rnd1 sf now) r)
  | [], L, r, h, _ => by rw [List.append_nil]; exact h
  | x :: l, L, r, h, hl => by
    rw [List.foldl_cons, show L ++ x :: l = (L ++ [x]) ++ l by simp]
    exact foldR_inv l _ _ (rnd1_inv h (hl x List.mem_cons_self).1 (hl x List.mem_cons_self).2) (fun y hy => hl y (List.mem_cons_of_mem _ hy))
/-- Behind a round. -/
theorem BInv.round {L : List Fd} {H : List Wd} {S : List Int} {sf : Int} {a : Nat} (h : BInv L H S sf a) (now : Int) {l : List Wd} (hl : l.length ≤ 20) :
    BInv (roundR sf now (onceL l) S H L a).left (roundR sf now (onceL l) S H L a).H (roundR sf now (onceL l) S H L a).S sf (L2of (onceL l) now L a).2 ∧ ∀ y ∈ (roundR sf now (onceL l) S H L a).asked, AskOk sf y ∧ y.u ∈ l := by
  have hml : (onceL l).length ≤ 20 := Nat.le_trans (onceL_len l) hl
  have hf := h.filter (inL (onceL l)) (inH (onceL l)) h.sc
  obtain ⟨b1, b2, b3⟩ := fillF_inv (now := now) (n := (onceL l).length) 8 (L.filter (inL (onceL l))) a hf.len hf.nd (fun x hx => of_decide_eq_true (List.mem_filter.1 hx).2)
  have b4 := fillF_ok (ms := onceL l) (now := now) (n := (onceL l).length) 8 (L.filter (inL (onceL l))) a hf.ok
  have b5 : (L2of (onceL l) now L a).2 ≤ 500 := fillF_at (by omega) 8 _ _ h.at_ rfl
  have r0 : RInv sf (onceL l) [] ⟨S, H.filter (inH (onceL l)), [], []⟩ := ⟨List.Sublist.refl _, fun x hx => (by cases hx), fun x hx => (by cases hx), hf.hn, fun u hu => of_decide_eq_true (List.mem_filter.1 hu).2, h.sc⟩
  have r1 := foldR_inv (now := now) _ [] _ r0 (fun x hx => ⟨b4 x hx, b3 x hx⟩)
  rw [List.nil_append] at r1
  refine ⟨⟨?_, r1.sub.nodup b2, r1.ok, ?_, r1.hn, r1.S, b5⟩, fun y hy => ⟨(r1.ak y hy).1, onceL_mem.1 (r1.ak y hy).2⟩⟩
  · have := r1.sub.length_le
    rw [List.length_map, List.length_map] at this
    exact Nat.le_trans this b1
  · exact Nat.le_trans (nodup_len r1.hn r1.hm) hml
end Fe
end Go.Proofs.Ytgllkfolckbdhaa
