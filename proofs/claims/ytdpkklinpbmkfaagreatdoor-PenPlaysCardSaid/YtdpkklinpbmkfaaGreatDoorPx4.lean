/-
  The document's pen: take.
-/
import Derived.Test.YtdpkklinpbmkfaaGreatDoorPx2
import Derived.Test.YtdpkklinpbmkfaaGreatDoorGRf
set_option linter.unusedVariables false
set_option linter.unusedSimpArgs false
namespace Go.Proofs.YtdpkklinpbmkfaaGreatDoor
open Go.RowKit
namespace Px
open Oct Ids Gn Hd Pn
open Mem (M It blk ids rows)
/-- Are all parents known? -/
def rdx (kl : List (List UInt8)) (x : Wt) : Bool := (IdL.lessL x.l kl).length == 0
/-- What 'Take' comes to. -/
def XTake (w : World) (b : Nat) (lv iv fv : Value) (L : List Wt) (lost : Int) (kl : List (List UInt8)) (e : Ending) (w' : World) : Prop :=
  (∃ i x lv' iv' fv', L[i]? = some x ∧ rdx kl x = true ∧ (∀ (j : Nat) (y : Wt), j < i → L[j]? = some y → rdx kl y = false) ∧ e = .returned (.tuple #[.agg (hv x).toArray, .int .i64 x.fr, .bool true]) ∧ XTo w w' b lv iv fv L lv' iv' fv' (L.take i ++ L.drop (i + 1)) lost ∧ At w' x.a x.n x.l)
  ∨ ((∀ (j : Nat) (y : Wt), L[j]? = some y → rdx kl y = false) ∧ e = .returned (.tuple #[.agg hz0, .int .i64 0, .bool false]) ∧ Keep (fun _ => False) w w')
theorem xToI {w w' : World} {b : Nat} {lv iv fv : Value} {L : List Wt} {lv' iv' fv' : Value} {L' : List Wt} {lost' : Int} {it : List It} (h : M (xfoot b lv iv fv L) w w' it) (i : Nat) (hi : it[i]? = some (xpI b lv' iv' fv' L' lost')) : XTo w w' b lv iv fv L lv' iv' fv' L' lost' :=
  ⟨h.get i hi, h.keep, fun k hk => by
    have := h.rng i _ hi k hk
    rcases this.1 with h1 | h1
    · exact .inr ⟨h1, this.2⟩
    · exact .inl h1⟩
theorem xoutTo2 (w : World) (b : Nat) (lv iv fv : Value) (L : List Wt) (lost : Int) (h : XAt w b lv iv fv L lost) (hl : L.length ≤ 1000) (i : Nat) (hi : i < L.length) :
    Calls Tryz.prog 60 #[.pointer (some ⟨b, 0, none⟩), .int .i64 i] w fun e w' => e = .returned (.tuple #[]) ∧ ∃ lv' iv' fv', XTo w w' b lv iv fv L lv' iv' fv' (L.take i ++ L.drop (i + 1)) lost ∧ ∀ y ∈ L, At w' y.a y.n y.l := by
  refine (xout w b lv iv fv L lost h hl i hi).mono ?_
  rintro e w' ⟨he, lv', iv', fv', hm⟩
  refine ⟨he, lv', iv', fv', xTo ?_, hm.get 4 rfl⟩
  exact hm.turn 4 rfl (pars (L.take i ++ L.drop (i + 1))) ((pars_sub mem_cut).2 _ (hm.get 4 rfl)) (pars_sub mem_cut).1
set_option maxRecDepth 100000 in
set_option maxHeartbeats 4000000 in
theorem xtake (w : World) (b : Nat) (lv iv fv : Value) (L : List Wt) (lost : Int) (h : XAt w b lv iv fv L lost) (hl : L.length ≤ 900) (hp : ∀ x ∈ L, x.n ≤ 100000) (ka : Option Addr) (kn kc : Nat) (kl : List (List UInt8)) (hk : At w ka kn kl) (hkm : kn ≤ 100000) :
    Calls Tryz.prog 21 #[.pointer (some ⟨b, 0, none⟩), .slice ka kn kc] w (XTake w b lv iv fv L lost kl) := by
  have HP : Hid (XAt w b lv iv fv L lost) := h
  have HK : Hid (At w ka kn kl) := hk
  have HPn : Hid (∀ x ∈ L, x.n ≤ 100000) := hp
  have Hl : Hid (L.length ≤ 900) := hl
  have HM : Hid (M (xfoot b lv iv fv L) w (w.alloc (.cells hz0 30)) [blk w.heap.size (.cells hz0 30), xpI b lv iv fv L lost]) := pack_x (l := [blk w.heap.size (.cells hz0 30)]) ((h.all.alloc (.cells hz0 30) rfl).sub _ [5, 0, 1, 2, 3, 4] (by decide) rfl)
  obtain ⟨ha, hc, eh, ah⟩ := h.rowH
  obtain ⟨fa, fc, ef, af⟩ := h.rowF
  subst eh ef
  obtain ⟨q, hq⟩ : ∃ q, L.length = q := ⟨_, rfl⟩
  rw [hq] at ah af HM hl HP ⊢
  have HQ : Hid (L.length = q) := hq
  have AH : Hid (St.At 38 hv w ha q L) := ah
  have AF : Hid (St.At 1 eF w fa q L) := af
  have c0 := (show XAt _ b _ _ _ L lost from HM.out.get 1 rfl).cells.1
  have KW : Hid (Keep (fun _ => False) w (w.alloc (.cells hz0 30))) := (Keep.refl _ _).alloc _
  clear h hk hp hq ah af
  go_enter Tryz.func21, Tryz.ntmps21
  go_wp2_with (first | (refine St.wl_alloc tyH rfl rfl (by (try simp only [World.size_alloc]); rfl) ?_; simp only [Act.put, List.setIfInBounds_toArray, List.set_cons_zero, List.set_cons_succ]))
  go_loopw [7] (fun i wr => ∃ (k : Nat), k ≤ q ∧ i = .int .i64 k ∧ (∀ (j : Nat) (y : Wt), j < k → L[j]? = some y → rdx kl y = false) ∧ M (xfoot b (.slice ha q hc) iv (.slice fa q fc) L) w wr [blk w.heap.size (.cells hz0 30), xpI b (.slice ha q hc) iv (.slice fa q fc) L lost] ∧ Keep (fun _ => False) w wr) (fun i _ => q - (intOf i).toNat)
  case atStart => exact ⟨0, Nat.zero_le _, rfl, fun j y hj => absurd hj (Nat.not_lt_zero _), HM.out, KW.out⟩
  case round =>
    obtain ⟨k, hkq, rfl, hno, hM, hKW⟩ := hrel
    have HM : Hid _ := hM
    have KW : Hid _ := hKW
    have HNo : Hid (∀ (j : Nat) (y : Wt), j < k → L[j]? = some y → rdx kl y = false) := hno
    have c0 := (show XAt _ b _ _ _ L lost from HM.out.get 1 rfl).cells.1
    clear hM hKW hno
    by_cases hlt : k < q
    · obtain ⟨x, hx⟩ : ∃ x, L[k]? = some x := ⟨_, List.getElem?_eq_getElem (by rw [HQ.out]; omega)⟩
      obtain ⟨b1, o1, rfl, hb1, hr1⟩ : ∃ b off, ha = some ⟨b, off, none⟩ ∧ b < w.heap.size ∧ ∀ i x, L[i]? = some x → w.rangeAt b (off + i * 38) (hv x) := by rcases AH.out.lay with e | e; omega; exact e
      obtain ⟨b2, o2, rfl, hb2, hr2⟩ : ∃ b off, fa = some ⟨b, off, none⟩ ∧ b < w.heap.size ∧ ∀ i x, L[i]? = some x → w.rangeAt b (off + i * 1) (eF x) := by rcases AF.out.lay with e | e; omega; exact e
      have Hx : Hid (L[k]? = some x) := hx
      have HB1 : Hid (b1 < w.heap.size) := hb1
      have HB2 : Hid (b2 < w.heap.size) := hb2
      have R1 : Hid (w.rangeAt b1 (o1 + k * 38) (hv x)) := hr1 k x hx
      have R2 : Hid (w.rangeAt b2 (o2 + k * 1) (eF x)) := hr2 k x hx
      have dq0 : wr.cell? ⟨b1, o1 + k * 38, none⟩ = some (.slice x.a x.n x.c) := (KW.out.range hb1 (fun h => h) R1.out) 0 _ rfl
      have AX : Hid (At w x.a x.n x.l) := HP.out.par x (List.mem_of_getElem? hx)
      have Hxa : Hid (∀ k off, x.a = some ⟨k, off, none⟩ → k < w.heap.size) := fun k off e => (HP.out.all.rng 4 _ rfl k ⟨x, List.mem_of_getElem? hx, off, e⟩).2
      have Nx : Hid (x.n ≤ 100000) := HPn.out x (List.mem_of_getElem? hx)
      clear hr1 hr2 hx hb1 hb2
      cases hrd : rdx kl x with
      | false =>
        have hne : (IdL.lessL x.l kl).length ≠ 0 := by unfold rdx at hrd; simpa using hrd
        obtain ⟨p, hp⟩ : ∃ p, (IdL.lessL x.l kl).length = p := ⟨_, rfl⟩
        rw [hp] at hne
        have HPp : Hid _ := hp
        have Hrd : Hid _ := hrd
        have hne2 : ((p : Int) == 0) = false := by simpa using hne
        clear hrd hp hne
        go_wp2_with (first | (go_at_call 15; refine (xless_any _ x.a ka x.n x.c kn kc x.l kl (AX.out.calm KW.out) (HK.out.calm KW.out) Nx.out hkm).mono ?_; rintro e w2 ⟨v2, rfl, n2⟩; obtain ⟨a2, c2, e2, _⟩ := n2.1.at; rw [HPp.out] at e2; subst e2; have HM : Hid _ := HM.out.calm n2.2.1; have KW : Hid _ := KW.out.trans n2.2.1; clear n2))
        go_roundw
        case rel =>
          refine ⟨k + 1, by omega, rfl, fun j y hj hy => ?_, HM.out, KW.out⟩
          rcases Nat.lt_or_ge j k with h | h
          · exact HNo.out j y h hy
          · obtain rfl : j = k := by omega
            rw [Hx.out] at hy
            cases hy
            exact Hrd.out
        case measure => simp [intOf]; omega
      | true =>
        have hp : (IdL.lessL x.l kl).length = 0 := by unfold rdx at hrd; simpa using hrd
        have HPp : Hid _ := hp
        have Hrd : Hid _ := hrd
        have Hkq : Hid (k < q) := hlt
        clear hrd hp
        go_wp2_with (first | (go_at_call 15; refine (xless_any _ x.a ka x.n x.c kn kc x.l kl (AX.out.calm KW.out) (HK.out.calm KW.out) Nx.out hkm).mono ?_; rintro e w2 ⟨v2, rfl, n2⟩; obtain ⟨a2, c2, e2, _⟩ := n2.1.at; rw [HPp.out] at e2; subst e2; have HM : Hid _ := HM.out.calm n2.2.1; have KW : Hid _ := KW.out.trans n2.2.1; have c0 := (show XAt _ b _ _ _ L lost from HM.out.get 1 rfl).cells.1; clear n2) | ((with_reducible refine at_load 30 ?_); refine St.wl_load tyH (by rfl) rfl rfl (KW.out.range HB1.out (fun h => h) R1.out) (hv_len x) ?_; simp only [Act.put, List.setIfInBounds_toArray, List.set_cons_zero, List.set_cons_succ]) | (refine St.wl_alloc tyH rfl rfl (by (try simp only [World.size_alloc]); rfl) ?_; simp only [Act.put, List.setIfInBounds_toArray, List.set_cons_zero, List.set_cons_succ]) | (refine St.wl_storeN (W := w2) tyH rfl rfl rfl rfl rfl (by (try simp only [World.size_alloc])) (show _ = Value.agg (hv x).toArray from rfl) (by rw [List.size_toArray]; exact hv_len x) rfl (hd_one _ _ _ _ _ _ _ _ _) ?_; have HM : Hid _ := HM.out.alloc (.cells (hv x).toArray 30) rfl; have KW : Hid _ := KW.out.alloc (.cells (hv x).toArray 30); have c2 := (show XAt _ b _ _ _ L lost from HM.out.get 1 rfl).cells.2.2.1; have dq2 : World.cell? _ ⟨b2, o2 + k, none⟩ = some (.int .i64 x.fr) := (by have := (KW.out.range HB2.out (fun h => h) R2.out) 0 _ rfl; simpa using this)) | (go_at_call 60; refine (xoutTo2 _ b _ iv _ L lost (HM.out.get 1 rfl) (by rw [HQ.out]; omega) k (by rw [HQ.out]; exact Hkq.out)).mono ?_; rintro e w5 ⟨rfl, lv5, iv5, fv5, t5, p5⟩; have HM : Hid _ := M.xp HM.out 1 rfl t5; have HPx : Hid (At w5 x.a x.n x.l) := p5 x (List.mem_of_getElem? Hx.out); clear t5 p5) | ((with_reducible refine at_load 30 ?_); refine St.wl_load tyH (by rfl) rfl rfl (HM.out.range 2 rfl) (hv_len x) ?_; simp only [Act.put, List.setIfInBounds_toArray, List.set_cons_zero, List.set_cons_succ]) | (refine St.wl_store tyH rfl rfl rfl rfl rfl (cs := (hv x).toArray) (by rw [List.size_toArray]; exact hv_len x) (hd_one _ _ _ _ _ _ _ _ _) (HM.out.get 0 rfl) rfl ?_; have HPx : Hid _ := HPx.out.keep (S := fun k => k = w.heap.size) ((Keep.refl _ _).setRow w.heap.size (hv x).toArray (fun _ => rfl)) (fun k off e e2 => by have := Hxa.out k off e; omega); have HM : Hid _ := HM.out.setr 0 rfl (hv x).toArray))
        refine bodyPost_ret (St.res3 tyH rfl _ _ _ ((hv x).toArray) (by rw [List.size_toArray]; exact hv_len x) rfl (HM.out.get 0 rfl) _ _ rfl rfl) rfl ?_
        exact .inl ⟨k, x, lv5, iv5, fv5, Hx.out, Hrd.out, HNo.out, rfl, xToI HM.out 1 rfl, HPx.out⟩
    · obtain rfl : k = q := by omega
      go_wp2_with (first | (refine St.wl_buildV (T := 30) (parts := #[]) rfl rfl (cs := hz0) (by kernel_rfl) ?_; simp only [Act.put, List.setIfInBounds_toArray, List.set_cons_zero, List.set_cons_succ]) | (refine St.wl_store tyH rfl rfl rfl rfl rfl (cs := hz0) rfl (hd_one _ _ _ _ _ _ _ _ _) (HM.out.get 0 rfl) rfl ?_; have HM : Hid _ := HM.out.setr 0 rfl hz0))
      refine bodyPost_ret (St.res3 tyH rfl _ _ _ hz0 rfl rfl (HM.out.get 0 rfl) _ _ rfl rfl) rfl ?_
      refine .inr ⟨fun j y hy => HNo.out j y (by have := (List.getElem?_eq_some_iff.1 hy).1; rw [HQ.out] at this; exact this) hy, rfl, ?_⟩
      exact keep_new KW.out (Nat.le_refl _) _
end Px
end Go.Proofs.YtdpkklinpbmkfaaGreatDoor
