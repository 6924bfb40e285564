/-
  The document's pen: wants; both are one set.
-/
import Derived.Test.YtdpkklinpbmkfaaGreatDoorPx4
import Derived.Test.YtdpkklinpbmkfaaGreatDoorPnW
import Derived.Test.YtdpkklinpbmkfaaGreatDoorGRf
set_option linter.unusedVariables false
set_option linter.unusedSimpArgs false
namespace Go.Proofs.YtdpkklinpbmkfaaGreatDoor
open Go.RowKit
namespace Px
open Oct Ids Gn Hd Pn
open Mem (M It blk ids rows)
/-- What is wanted. -/
def wn (kl I : List (List UInt8)) (L : List Wt) : List (List UInt8) := L.foldl (fun out x => IdL.setL (out ++ IdL.lessL (IdL.lessL x.l kl) I)) []
theorem wn_snoc (kl I : List (List UInt8)) (L : List Wt) (x : Wt) : wn kl I (L ++ [x]) = IdL.setL (wn kl I L ++ IdL.lessL (IdL.lessL x.l kl) I) := by unfold wn; rw [List.foldl_append]; rfl
theorem wn_len (kl I : List (List UInt8)) (L : List Wt) (h : ∀ x ∈ L, x.l.length ≤ 100) : (wn kl I L).length ≤ 100 * L.length := by
  have : ∀ n, n ≤ L.length → (wn kl I (L.take n)).length ≤ 100 * n := by
    intro n
    induction n with
    | zero => intro _; simp [wn]
    | succ n ih =>
      intro hn
      have hx : L[n]? = some L[n] := List.getElem?_eq_getElem (by omega)
      rw [List.take_add_one, hx]
      show (wn kl I (L.take n ++ [L[n]])).length ≤ _
      rw [wn_snoc]
      have h1 := IdL.setL_len (wn kl I (L.take n) ++ IdL.lessL (IdL.lessL (L[n]).l kl) I)
      rw [List.length_append] at h1
      have h2 := less_le (IdL.lessL (L[n]).l kl) I
      have h3 := less_le (L[n]).l kl
      have h4 := h _ (List.getElem_mem (by omega : n < L.length))
      have := ih (by omega)
      omega
  have h1 := this L.length (Nat.le_refl _)
  rwa [List.take_length] at h1
theorem wn_is (kl I : List (List UInt8)) (L : List Wt) : wn kl I L = IdL.lessL (IdL.lessL (L.flatMap fun x : Wt => x.l) kl) I := by
  have hm : ∀ (n : Nat), n ≤ L.length → ∀ y, y ∈ wn kl I (L.take n) ↔ ∃ x ∈ L.take n, y ∈ x.l ∧ y ∉ kl ∧ y ∉ I := by
    intro n
    induction n with
    | zero => intro _ y; simp [wn]
    | succ n ih =>
      intro hn y
      have hx : L[n]? = some L[n] := List.getElem?_eq_getElem (by omega)
      rw [List.take_add_one, hx]
      show y ∈ wn kl I (L.take n ++ [L[n]]) ↔ ∃ x ∈ L.take n ++ [L[n]], _
      rw [wn_snoc, IdL.mem_setL, List.mem_append, ih (by omega) y, IdL.mem_lessL, IdL.mem_lessL]
      constructor
      · rintro (⟨x, hx, h⟩ | ⟨⟨h1, h2⟩, h3⟩)
        · exact ⟨x, List.mem_append_left _ hx, h⟩
        · exact ⟨L[n], List.mem_append_right _ List.mem_cons_self, h1, h2, h3⟩
      · rintro ⟨x, hx, h1, h2, h3⟩
        rcases List.mem_append.1 hx with hx | hx
        · exact .inl ⟨x, hx, h1, h2, h3⟩
        · rw [List.mem_singleton] at hx
          subst hx
          exact .inr ⟨⟨h1, h2⟩, h3⟩
  have hs : IdL.Srt (wn kl I L) := by
    cases hL : L.reverse with
    | nil =>
      have : L = [] := by simpa using hL
      subst this
      exact List.Pairwise.nil
    | cons x r =>
      have : L = r.reverse ++ [x] := by rw [← List.reverse_reverse L, hL]; simp
      rw [this, wn_snoc]
      exact IdL.setL_srt _
  refine IdL.srt_unique _ _ hs (by unfold IdL.lessL; exact (IdL.setL_srt _).filter _) (fun y => ?_)
  have h1 := hm L.length (Nat.le_refl _) y
  rw [List.take_length] at h1
  rw [h1, IdL.mem_lessL, IdL.mem_lessL, List.mem_flatMap]
  constructor
  · rintro ⟨x, hx, h1, h2, h3⟩
    exact ⟨⟨⟨x, hx, h1⟩, h2⟩, h3⟩
  · rintro ⟨⟨⟨x, hx, h1⟩, h2⟩, h3⟩
    exact ⟨x, hx, h1, h2, h3⟩
set_option maxRecDepth 100000 in
set_option maxHeartbeats 4000000 in
theorem xwants (w : World) (b : Nat) (lv iv fv : Value) (L : List Wt) (lost : Int) (h : XAt w b lv iv fv L lost) (hl : L.length ≤ 900) (hp : ∀ x ∈ L, x.l.length ≤ 100) (ka : Option Addr) (kn kc : Nat) (kl : List (List UInt8)) (hk : At w ka kn kl) (hkm : kn ≤ 100000) :
    Calls Tryz.prog 28 #[.pointer (some ⟨b, 0, none⟩), .slice ka kn kc] w fun e w' => ∃ v', e = .returned v' ∧ New w w' v' (wn kl (L.map fun x : Wt => x.id) L) := by
  have HP : Hid (XAt w b lv iv fv L lost) := h
  have HK : Hid (At w ka kn kl) := hk
  have HPl : Hid (∀ x ∈ L, x.l.length ≤ 100) := hp
  obtain ⟨ha, hc, eh, ah⟩ := h.rowH
  obtain ⟨ra, rc, er, ar⟩ := h.rowI
  subst eh er
  obtain ⟨q, hq⟩ : ∃ q, L.length = q := ⟨_, rfl⟩
  rw [hq] at ah ar hl HP
  have HQ : Hid (L.length = q) := hq
  have AH : Hid (St.At 38 hv w ha q L) := ah
  have AI : Hid (At w ra q (L.map fun x : Wt => x.id)) := at_ids ar
  have Hq9 : Hid (q ≤ 900) := hl
  clear h hk hp hq ah ar
  go_enter Tryz.func28, Tryz.ntmps28
  go_wp2
  go_loopw [5, 6] (fun s5 i wr => ∃ (k : Nat) (v' : Value), k ≤ q ∧ i = .int .i64 k ∧ s5 = v' ∧ New w wr v' (wn kl (L.map fun x : Wt => x.id) (L.take k))) (fun _ i _ => q - (intOf i).toNat)
  case atStart => exact ⟨0, _, Nat.zero_le _, rfl, rfl, Own.nil _, Keep.refl _ _, fun k hk => by simp [Value.ownBlock] at hk⟩
  case round =>
    obtain ⟨k, v', hkq, rfl, hv, hN⟩ := hrel
    replace hv := hv.symm
    subst hv
    have HN : Hid _ := hN
    have c0 := (HP.out.calm hN.2.1).cells.1
    clear hN
    by_cases hlt : k < q
    · obtain ⟨x, hx⟩ : ∃ x, L[k]? = some x := ⟨_, List.getElem?_eq_getElem (by rw [HQ.out]; exact hlt)⟩
      obtain ⟨b1, o1, rfl, hb1, hr1⟩ : ∃ b off, ha = some ⟨b, off, none⟩ ∧ b < w.heap.size ∧ ∀ i x, L[i]? = some x → w.rangeAt b (off + i * 38) (hv x) := by rcases AH.out.lay with e | e; omega; exact e
      have AX : Hid (At w x.a x.n x.l) := HP.out.par x (List.mem_of_getElem? hx)
      have Hxl : Hid (x.l.length ≤ 100) := HPl.out x (List.mem_of_getElem? hx)
      have E1 : Hid (wn kl (L.map fun x : Wt => x.id) (L.take (k + 1)) = IdL.setL (wn kl (L.map fun x : Wt => x.id) (L.take k) ++ IdL.lessL (IdL.lessL x.l kl) (L.map fun x : Wt => x.id))) := by show _ = _; rw [List.take_add_one, hx]; exact wn_snoc _ _ _ _
      have Hol : Hid ((wn kl (L.map fun x : Wt => x.id) (L.take k)).length ≤ 90000) := by
        have := wn_len kl (L.map fun x : Wt => x.id) (L.take k) (fun y hy => HPl.out y (List.mem_of_mem_take hy))
        rw [List.length_take] at this
        have := Hq9.out
        show _ ≤ _
        omega
      have hxn : Hid (x.n ≤ 100) := by show _ ≤ _; rw [← AX.out.len]; exact Hxl.out
      obtain ⟨oa, oc, eo, oat, _⟩ := HN.out.1.at
      have OA : Hid _ := oat
      have HN2 : Hid _ := HN.out
      obtain ⟨ol, hol⟩ : ∃ ol, (wn kl (L.map fun x : Wt => x.id) (L.take k)).length = ol := ⟨_, rfl⟩
      rw [hol] at eo OA Hol
      subst eo
      have K0 : Hid (Keep (fun _ => False) w wr.drew) := HN2.out.2.1.drew
      have K1 : Hid (Keep (fun _ => False) wr wr.drew) := (Keep.refl _ _).drew
      have cx0 := (HP.out.calm K0.out).cells.1
      have cx1 := (HP.out.calm K0.out).cells.2.1
      have dq0 : wr.drew.cell? ⟨b1, o1 + k * 38, none⟩ = some (.slice x.a x.n x.c) := (K0.out.range hb1 (fun h => h) (hr1 k x hx)) 0 _ rfl
      clear hr1 hx hb1 hol oat
      go_wp2
      refine Txt.wp_region_text (fun w' => w'.cell? ⟨b, 1, none⟩ = some (.slice ra q rc)) [0, 0, 0, 0, 1, 0, 0, 0, 1, 0, 4, 0, 0, 0, 2, 4, 4, 0] (by kernel_rfl) (by kernel_rfl) cx1 ?_
      (repeat (first | (refine Txt.tl_pure (v := ?_) (by rfl) ?_ ?_; rotate_left; (focus (intro _; go_simp; try with_reducible rfl)); simp only [Act.put, List.setIfInBounds_toArray, List.set_cons_zero, List.set_cons_succ]) | (refine Txt.tl_load (v := ?_) (by rfl) (by rfl) (by rfl) (by kernel_rfl) ?_ ?_; rotate_left; (focus assumption); simp only [Act.put, List.setIfInBounds_toArray, List.set_cons_zero, List.set_cons_succ]) | (refine Txt.tl_loadS (v := ?_) (by rfl) (by rfl) (by rfl) (by kernel_rfl) ?_ ?_; rotate_left; (focus (exact fun _ h => h)); simp only [Act.put, List.setIfInBounds_toArray, List.set_cons_zero, List.set_cons_succ])))
      refine Txt.tl_call Tryz.func15 (by kernel_rfl) (by kernel_rfl) (by rfl) (by rfl) (by rfl) (vs := #[.slice x.a x.n x.c, .slice ka kn kc]) (xless_any _ x.a ka x.n x.c kn kc x.l kl (AX.out.calm K0.out) (HK.out.calm K0.out) (by have := hxn.out; omega) hkm) ?_
      rintro e w1 ⟨v1, rfl, n1⟩
      obtain ⟨a1, c1, e1, at1, _⟩ := n1.1.at
      have K0 : Hid _ := K0.out.trans n1.2.1
      have K1 : Hid _ := K1.out.trans n1.2.1
      have A1 : Hid _ := at1
      obtain ⟨l1, hl1⟩ : ∃ l1, (IdL.lessL x.l kl).length = l1 := ⟨_, rfl⟩
      have Hl1 : Hid (l1 ≤ 100) := by show _ ≤ _; rw [← hl1]; exact Nat.le_trans (less_le _ _) Hxl.out
      rw [hl1] at e1 A1
      subst e1
      clear n1 at1 hl1
      refine ⟨_, rfl, (HP.out.calm K0.out).cells.2.1, ?_⟩
      simp only [Act.put, List.setIfInBounds_toArray, List.set_cons_zero, List.set_cons_succ]
      (repeat (first | (refine Txt.tl_pure (v := ?_) (by rfl) ?_ ?_; rotate_left; (focus (intro _; go_simp; try with_reducible rfl)); simp only [Act.put, List.setIfInBounds_toArray, List.set_cons_zero, List.set_cons_succ]) | (refine Txt.tl_load (v := ?_) (by rfl) (by rfl) (by rfl) (by kernel_rfl) ?_ ?_; rotate_left; (focus assumption); simp only [Act.put, List.setIfInBounds_toArray, List.set_cons_zero, List.set_cons_succ]) | (refine Txt.tl_loadS (v := ?_) (by rfl) (by rfl) (by rfl) (by kernel_rfl) ?_ ?_; rotate_left; (focus (exact fun _ h => h)); simp only [Act.put, List.setIfInBounds_toArray, List.set_cons_zero, List.set_cons_succ])))
      refine Txt.tl_loadS (v := .slice ra q rc) (ty := 26) (by rfl) (by rfl) (by rfl) (by kernel_rfl) (fun _ h => h) ?_
      simp only [Act.put, List.setIfInBounds_toArray, List.set_cons_zero, List.set_cons_succ]
      (repeat (first | (refine Txt.tl_pure (v := ?_) (by rfl) ?_ ?_; rotate_left; (focus (intro _; go_simp; try with_reducible rfl)); simp only [Act.put, List.setIfInBounds_toArray, List.set_cons_zero, List.set_cons_succ]) | (refine Txt.tl_load (v := ?_) (by rfl) (by rfl) (by rfl) (by kernel_rfl) ?_ ?_; rotate_left; (focus assumption); simp only [Act.put, List.setIfInBounds_toArray, List.set_cons_zero, List.set_cons_succ]) | (refine Txt.tl_loadS (v := ?_) (by rfl) (by rfl) (by rfl) (by kernel_rfl) ?_ ?_; rotate_left; (focus (exact fun _ h => h)); simp only [Act.put, List.setIfInBounds_toArray, List.set_cons_zero, List.set_cons_succ])))
      refine Txt.tl_call Tryz.func15 (by kernel_rfl) (by kernel_rfl) (by rfl) (by rfl) (by rfl) (vs := #[.slice a1 l1 c1, .slice ra q rc]) (xless_any _ a1 ra l1 c1 q rc _ _ A1.out (AI.out.calm K0.out) (by have := Hl1.out; omega) (by have := Hq9.out; omega)) ?_
      rintro e w2 ⟨v2, rfl, n2⟩
      obtain ⟨a2, c2, e2, at2, _⟩ := n2.1.at
      have K0 : Hid _ := K0.out.trans n2.2.1
      have K1 : Hid _ := K1.out.trans n2.2.1
      have A2 : Hid _ := at2
      obtain ⟨l2, hl2⟩ : ∃ l2, (IdL.lessL (IdL.lessL x.l kl) (L.map fun x : Wt => x.id)).length = l2 := ⟨_, rfl⟩
      have Hl2 : Hid (l2 ≤ 100) := by show _ ≤ _; rw [← hl2]; exact Nat.le_trans (Nat.le_trans (less_le _ _) (less_le _ _)) Hxl.out
      rw [hl2] at e2 A2
      subst e2
      clear n2 at2 hl2
      refine ⟨_, rfl, (HP.out.calm K0.out).cells.2.1, ?_⟩
      simp only [Act.put, List.setIfInBounds_toArray, List.set_cons_zero, List.set_cons_succ]
      (repeat (first | (refine Txt.tl_pure (v := ?_) (by rfl) ?_ ?_; rotate_left; (focus (intro _; go_simp; try with_reducible rfl)); simp only [Act.put, List.setIfInBounds_toArray, List.set_cons_zero, List.set_cons_succ]) | (refine Txt.tl_load (v := ?_) (by rfl) (by rfl) (by rfl) (by kernel_rfl) ?_ ?_; rotate_left; (focus assumption); simp only [Act.put, List.setIfInBounds_toArray, List.set_cons_zero, List.set_cons_succ]) | (refine Txt.tl_loadS (v := ?_) (by rfl) (by rfl) (by rfl) (by kernel_rfl) ?_ ?_; rotate_left; (focus (exact fun _ h => h)); simp only [Act.put, List.setIfInBounds_toArray, List.set_cons_zero, List.set_cons_succ])))
      refine Txt.tl_call Tryz.func67 (by kernel_rfl) (by kernel_rfl) (by rfl) (by rfl) (by rfl) (vs := #[.slice oa ol oc, .slice a2 l2 c2]) (xboth_any _ a2 oa l2 c2 ol oc _ _ (OA.out.calm K1.out) A2.out (by have := Hl2.out; have := Hol.out; omega)) ?_
      rintro e w3 ⟨v3, rfl, n3⟩
      have N3 : Hid _ := n3
      have K0 : Hid _ := K0.out.trans n3.2.1
      clear n3
      refine ⟨_, rfl, (HP.out.calm K0.out).cells.2.1, ?_⟩
      simp only [Act.put, List.setIfInBounds_toArray, List.set_cons_zero, List.set_cons_succ]
      (repeat (first | (refine Txt.tl_pure (v := ?_) (by rfl) ?_ ?_; rotate_left; (focus (intro _; go_simp; try with_reducible rfl)); simp only [Act.put, List.setIfInBounds_toArray, List.set_cons_zero, List.set_cons_succ]) | (refine Txt.tl_load (v := ?_) (by rfl) (by rfl) (by rfl) (by kernel_rfl) ?_ ?_; rotate_left; (focus assumption); simp only [Act.put, List.setIfInBounds_toArray, List.set_cons_zero, List.set_cons_succ]) | (refine Txt.tl_loadS (v := ?_) (by rfl) (by rfl) (by rfl) (by kernel_rfl) ?_ ?_; rotate_left; (focus (exact fun _ h => h)); simp only [Act.put, List.setIfInBounds_toArray, List.set_cons_zero, List.set_cons_succ])))
      refine Txt.tl_nil ?_
      go_wp2
      go_roundw
      case rel =>
        refine ⟨k + 1, _, by omega, rfl, rfl, ?_⟩
        rw [E1.out]
        exact ⟨N3.out.1, K0.out, fun j hj => Nat.le_trans (by have := HN2.out.2.1.size; exact this) (Nat.le_trans K1.out.size (N3.out.2.2 j hj))⟩
      case measure => simp [intOf]; omega
    · obtain rfl : k = q := by omega
      have e : L.take k = L := List.take_of_length_le (by rw [HQ.out]; exact Nat.le_refl _)
      rw [e] at HN
      go_wp2
      go_ret
      exact ⟨_, rfl, HN.out⟩
end Px
end Go.Proofs.YtdpkklinpbmkfaaGreatDoor
