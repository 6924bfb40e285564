/-
  Rows of named headers: insertionSortCmpFunc, stableCmpFunc, SortStableFunc, Reverse.
-/
import Derived.Test.YtgllkfolckbdhaaGreatDoorNx1
import Derived.Test.YtgllkfolckbdhaaGreatDoorRows5
set_option linter.unusedVariables false
set_option linter.unusedSimpArgs false
namespace Go.Proofs.YtgllkfolckbdhaaGreatDoor
open Go.RowKit
namespace Nx
open Oct Ids Gn Hd Ru
open Mem (M It blk ids rows)
abbrev NOwn (w : World) (v : Value) (L : List Nm) : Prop := St.Own 60 70 ne w v L
/-- What is asked of the order: it tells by heights and ids. -/
def Orders (S : Nat → Prop) (w : World) (f : Nat) (bs ls : Array Value) : Prop :=
  ∀ (w1 : World) (x y : Nm), Keep S w w1 → Calls Tryz.prog f (bs ++ #[.agg (ne x).toArray, .agg (ne y).toArray] ++ ls) w1 fun e w2 => e = .returned (.int .i64 (od x y)) ∧ Keep (fun _ => False) w1 w2
theorem nrange {w : World} {g n c : Nat} {L : List Nm} (h : NOwn w (.slice (some ⟨g, 0, none⟩) n c) L) {k : Nat} {x : Nm} (hx : L[k]? = some x) : w.rangeAt g (k * 70) (ne x) := by
  obtain ⟨_, _, e, hat⟩ := h.any
  simp only [Value.slice.injEq] at e
  obtain ⟨rfl, -, rfl⟩ := e
  rcases hat.lay with h0 | ⟨b, off, e, _, hr⟩
  · have := (List.getElem?_eq_some_iff.1 hx).1
    omega
  · simp only [Option.some.injEq, Addr.mk.injEq] at e
    obtain ⟨rfl, rfl, -⟩ := e
    have := hr k x hx
    rwa [Nat.zero_add] at this
set_option maxRecDepth 100000 in
set_option maxHeartbeats 4000000 in
theorem ins_any (w : World) (g n c : Nat) (L : List Nm) (h : NOwn w (.slice (some ⟨g, 0, none⟩) n c) L) (hm : n ≤ 1000) (f : Nat) (bs ls : Array Value)
    (eg : ∀ args w, (callFunc f args).run Tryz.prog w = .ok (.enter f args) w) (hp : Orders (fun k => k = g) w f bs ls) :
    Calls Tryz.prog 116 #[.slice (some ⟨g, 0, none⟩) n c, .int .i64 0, .int .i64 n, .func (.func f) bs ls] w fun e w' => e = .returned (.tuple #[]) ∧ ∃ M, NOwn w' (.slice (some ⟨g, 0, none⟩) n c) M ∧ Keep (fun k => k = g) w w' ∧ Sunk L M n := by
  have HN : Hid (n = L.length) := h.block.1
  have HP : Hid (Orders (fun k => k = g) w f bs ls) := hp
  have H0 : Hid (NOwn w (.slice (some ⟨g, 0, none⟩) n c) L) := h
  clear h hp
  go_enter Tryz.func116, Tryz.ntmps116
  go_wp2
  go_loopw [8] (fun i wr => ∃ (k : Nat) (M : List Nm), k ≤ n + 1 ∧ 1 ≤ k ∧ i = .int .i64 k ∧ NOwn wr (.slice (some ⟨g, 0, none⟩) n c) M ∧ Keep (fun b => b = g) w wr ∧ Sunk L M (min k n)) (fun i _ => n + 1 - (intOf i).toNat)
  case atStart =>
    refine ⟨1, L, by omega, Nat.le_refl _, by go_num, H0.out, Keep.refl _ _, ?_⟩
    rcases Nat.lt_or_ge n 1 with h1 | h1
    · have : min 1 n = 0 := by omega
      rw [this]; exact Sunk.zero L
    · have : min 1 n = 1 := by omega
      rw [this]; exact Sunk.start L (by have := HN.out; omega)
  case round =>
    obtain ⟨k, M, hk, hk1, rfl, ho, hkw, hs⟩ := hrel
    have HO : Hid (NOwn wr (.slice (some ⟨g, 0, none⟩) n c) M) := ho
    have HK : Hid (Keep (fun b => b = g) w wr) := hkw
    have HS : Hid (Sunk L M (min k n)) := hs
    clear ho hkw hs
    by_cases hlt : k < n
    · have hSk : Hid (Sink L M k k) := by have := HS.out; rw [Nat.min_eq_left (by omega)] at this; exact this.sink (by rw [← HO.out.block.1]; exact hlt)
      clear HS
      go_wp2
      go_loopw [9] (fun j wr2 => ∃ (q : Nat) (M2 : List Nm), q ≤ k ∧ j = .int .i64 q ∧ NOwn wr2 (.slice (some ⟨g, 0, none⟩) n c) M2 ∧ Keep (fun b => b = g) w wr2 ∧ Sink L M2 k q) (fun j _ => (intOf j).toNat)
      case atStart => exact ⟨k, M, Nat.le_refl _, rfl, HO.out, HK.out, hSk.out⟩
      case round =>
        clear HO HK hSk
        obtain ⟨q, M2, hq, rfl, ho, hkw, hs⟩ := hrel
        have HO : Hid (NOwn wr (.slice (some ⟨g, 0, none⟩) n c) M2) := ho
        have HK : Hid (Keep (fun b => b = g) w wr) := hkw
        have HS : Hid (Sink L M2 k q) := hs
        clear ho hkw hs
        by_cases hq0 : q = 0
        · subst hq0
          have HE : Hid (Sunk L M2 (k + 1)) := HS.out.done (.inl rfl)
          clear HS
          go_wp2
          refine Txt.wp_region_text (fun _ => True) [0, 0, 0, 0, 0, 0, 0, 0, 1, 0, 0, 0, 0, 1, 4, 0, 0] (by kernel_rfl) (by kernel_rfl) trivial ?_
          (repeat (first | (refine Txt.tl_pure (v := ?_) (by rfl) ?_ ?_; rotate_left; (focus (intro _; go_simp; try with_reducible rfl)); simp only [Act.put, List.setIfInBounds_toArray, List.set_cons_zero, List.set_cons_succ]) | (refine Txt.tl_skip (by rfl) trivial ?_; simp only [Act.put, List.setIfInBounds_toArray, List.set_cons_zero, List.set_cons_succ]) | (refine Txt.tl_rowN (n := 70) (ty := 60) (by rfl) (by rfl) (by rfl) Rx.out (by kernel_rfl) (encNe.len x) ?_; simp only [Act.put, List.setIfInBounds_toArray, List.set_cons_zero, List.set_cons_succ]) | (refine Txt.tl_rowN (n := 70) (ty := 60) (by rfl) (by rfl) (by rfl) Ry.out (by kernel_rfl) (encNe.len y) ?_; simp only [Act.put, List.setIfInBounds_toArray, List.set_cons_zero, List.set_cons_succ])))
          refine Txt.tl_nil ?_
          go_wp2
          go_roundw
          case rel => exact ⟨k + 1, M2, by omega, by omega, rfl, HO.out.keep ((Keep.refl (fun _ => False) wr).drew) (fun _ _ h => h), HK.out.drew, by rw [Nat.min_eq_left (by omega)]; exact HE.out⟩
          case measure => simp [intOf]; omega
        · obtain ⟨p, hp⟩ : ∃ p, q = p + 1 := ⟨q - 1, by omega⟩
          have Hp : Hid (q = p + 1) := hp
          have hpn : p < n := by omega
          have hqn : q < n := by omega
          have hql : 0 < q := by omega
          have hwp : IntKind.i64.wrap ((q : Int) - 1) = (p : Int) := by rw [IntKind.wrap_i64]; omega
          have HL : Hid (n = M2.length) := HO.out.block.1
          obtain ⟨x, hx⟩ : ∃ x, M2[q]? = some x := ⟨_, List.getElem?_eq_getElem (by rw [← HL.out]; omega)⟩
          obtain ⟨y, hy⟩ : ∃ y, M2[p]? = some y := ⟨_, List.getElem?_eq_getElem (by rw [← HL.out]; omega)⟩
          have Hx : Hid _ := hx
          have Hy : Hid _ := hy
          have O1 : Hid (NOwn wr.drew (.slice (some ⟨g, 0, none⟩) n c) M2) := HO.out.keep ((Keep.refl (fun _ => False) wr).drew) (fun _ _ h => h)
          have Rx : Hid (wr.drew.rangeAt g (q * 70) (ne x)) := nrange O1.out hx
          have Ry : Hid (wr.drew.rangeAt g (p * 70) (ne y)) := nrange O1.out hy
          have hc := HP.out wr.drew x y HK.out.drew
          have HD : Hid (decide (od x y < 0) = kah (nk x) (nk y)) := od_neg x y
          generalize od x y = d at hc HD
          have Hc : Hid (Calls Tryz.prog f (bs ++ #[.agg (ne x).toArray, .agg (ne y).toArray] ++ ls) wr.drew fun e w2 => e = .returned (.int .i64 d) ∧ Keep (fun _ => False) wr.drew w2) := hc
          clear hc hx hy hp hq0
          go_wp2
          refine Txt.wp_region_text (fun _ => True) [0, 0, 0, 0, 0, 0, 0, 0, 1, 0, 0, 0, 0, 1, 4, 0, 0] (by kernel_rfl) (by kernel_rfl) trivial ?_
          (repeat (first | (refine Txt.tl_pure (v := ?_) (by rfl) ?_ ?_; rotate_left; (focus (intro _; go_simp; try with_reducible rfl)); simp only [Act.put, List.setIfInBounds_toArray, List.set_cons_zero, List.set_cons_succ]) | (refine Txt.tl_skip (by rfl) trivial ?_; simp only [Act.put, List.setIfInBounds_toArray, List.set_cons_zero, List.set_cons_succ]) | (refine Txt.tl_rowN (n := 70) (ty := 60) (by rfl) (by rfl) (by rfl) Rx.out (by kernel_rfl) (encNe.len x) ?_; simp only [Act.put, List.setIfInBounds_toArray, List.set_cons_zero, List.set_cons_succ]) | (refine Txt.tl_rowN (n := 70) (ty := 60) (by rfl) (by rfl) (by rfl) Ry.out (by kernel_rfl) (encNe.len y) ?_; simp only [Act.put, List.setIfInBounds_toArray, List.set_cons_zero, List.set_cons_succ])))
          refine Txt.tl_callv (vs := #[.agg (ne x).toArray, .agg (ne y).toArray]) (by rfl) (by rfl) (by rfl) eg (by rfl) Hc.out ?_
          rintro e w2 ⟨rfl, k2⟩
          refine ⟨_, rfl, trivial, ?_⟩
          have O2 : Hid (NOwn w2 (.slice (some ⟨g, 0, none⟩) n c) M2) := O1.out.keep k2 (fun _ _ h => h)
          have K2 : Hid (Keep (fun b => b = g) w w2) := HK.out.drew.trans' k2 (fun _ _ h => h) (fun _ _ h => h.elim)
          clear k2 Hc O1 Rx Ry
          simp only [Act.put, List.setIfInBounds_toArray, List.set_cons_zero, List.set_cons_succ]
          by_cases hd : d < 0
          · have HLt : Hid (kah (nk x) (nk y) = true) := by show _ = _; rw [← HD.out]; exact decide_eq_true hd
            (repeat (first | (refine Txt.tl_pure (v := ?_) (by rfl) ?_ ?_; rotate_left; (focus (intro _; go_simp; try with_reducible rfl)); simp only [Act.put, List.setIfInBounds_toArray, List.set_cons_zero, List.set_cons_succ]) | (refine Txt.tl_skip (by rfl) trivial ?_; simp only [Act.put, List.setIfInBounds_toArray, List.set_cons_zero, List.set_cons_succ]) | (refine Txt.tl_rowN (n := 70) (ty := 60) (by rfl) (by rfl) (by rfl) Rx.out (by kernel_rfl) (encNe.len x) ?_; simp only [Act.put, List.setIfInBounds_toArray, List.set_cons_zero, List.set_cons_succ]) | (refine Txt.tl_rowN (n := 70) (ty := 60) (by rfl) (by rfl) (by rfl) Ry.out (by kernel_rfl) (encNe.len y) ?_; simp only [Act.put, List.setIfInBounds_toArray, List.set_cons_zero, List.set_cons_succ])))
            refine Txt.tl_nil ?_
            go_wp2
            have O3 : Hid (NOwn w2.drew (.slice (some ⟨g, 0, none⟩) n c) M2) := O2.out.keep ((Keep.refl (fun _ => False) w2).drew) (fun _ _ h => h)
            have Rx : Hid (w2.drew.rangeAt g (q * 70) (ne x)) := nrange O3.out Hx.out
            have Ry : Hid (w2.drew.rangeAt g (p * 70) (ne y)) := nrange O3.out Hy.out
            refine Txt.wp_region_text (fun _ => True) [0, 0, 0, 0, 0, 0, 0, 0, 0, 1, 0, 0, 0, 1, 0, 4, 0, 4] (by kernel_rfl) (by kernel_rfl) trivial ?_
            (repeat (first | (refine Txt.tl_pure (v := ?_) (by rfl) ?_ ?_; rotate_left; (focus (intro _; go_simp; try with_reducible rfl)); simp only [Act.put, List.setIfInBounds_toArray, List.set_cons_zero, List.set_cons_succ]) | (refine Txt.tl_skip (by rfl) trivial ?_; simp only [Act.put, List.setIfInBounds_toArray, List.set_cons_zero, List.set_cons_succ]) | (refine Txt.tl_rowN (n := 70) (ty := 60) (by rfl) (by rfl) (by rfl) Rx.out (by kernel_rfl) (encNe.len x) ?_; simp only [Act.put, List.setIfInBounds_toArray, List.set_cons_zero, List.set_cons_succ]) | (refine Txt.tl_rowN (n := 70) (ty := 60) (by rfl) (by rfl) (by rfl) Ry.out (by kernel_rfl) (encNe.len y) ?_; simp only [Act.put, List.setIfInBounds_toArray, List.set_cons_zero, List.set_cons_succ])))
            refine Txt.tl_loud (by rfl) ?_
            refine St.wp_set encNe tyN rfl rfl O3.out rfl hqn y rfl rfl ?_
            intro w3 o3 k3
            refine ⟨trivial, ?_⟩
            have O4 : Hid _ := o3
            have K4 : Hid _ := K2.out.drew.trans k3
            clear o3 k3
            (repeat (first | (refine Txt.tl_pure (v := ?_) (by rfl) ?_ ?_; rotate_left; (focus (intro _; go_simp; try with_reducible rfl)); simp only [Act.put, List.setIfInBounds_toArray, List.set_cons_zero, List.set_cons_succ]) | (refine Txt.tl_skip (by rfl) trivial ?_; simp only [Act.put, List.setIfInBounds_toArray, List.set_cons_zero, List.set_cons_succ]) | (refine Txt.tl_rowN (n := 70) (ty := 60) (by rfl) (by rfl) (by rfl) Rx.out (by kernel_rfl) (encNe.len x) ?_; simp only [Act.put, List.setIfInBounds_toArray, List.set_cons_zero, List.set_cons_succ]) | (refine Txt.tl_rowN (n := 70) (ty := 60) (by rfl) (by rfl) (by rfl) Ry.out (by kernel_rfl) (encNe.len y) ?_; simp only [Act.put, List.setIfInBounds_toArray, List.set_cons_zero, List.set_cons_succ])))
            refine Txt.tl_loud (by rfl) ?_
            refine St.wp_set encNe tyN rfl rfl O4.out rfl hpn x rfl rfl ?_
            intro w4 o4 k4
            refine ⟨trivial, ?_⟩
            have O5 : Hid _ := o4
            have K5 : Hid _ := K4.out.trans k4
            clear o4 k4
            refine Txt.tl_nil ?_
            go_wp2
            go_roundw
            case rel => exact ⟨p, _, by have := Hp.out; omega, by first | rfl | rw [hwp] | go_num, O5.out, K5.out, by have := HS.out; rw [Hp.out] at this Hx ⊢; exact this.swap Hx.out Hy.out HLt.out⟩
            case measure => have := Hp.out; simp [intOf]; omega
          · have HLt : Hid (kah (nk x) (nk y) = false) := by show _ = _; rw [← HD.out]; exact decide_eq_false hd
            have HE : Hid (Sunk L M2 (k + 1)) := HS.out.done (.inr ⟨x, y, Hx.out, by rw [Hp.out]; exact Hy.out, HLt.out⟩)
            (repeat (first | (refine Txt.tl_pure (v := ?_) (by rfl) ?_ ?_; rotate_left; (focus (intro _; go_simp; try with_reducible rfl)); simp only [Act.put, List.setIfInBounds_toArray, List.set_cons_zero, List.set_cons_succ]) | (refine Txt.tl_skip (by rfl) trivial ?_; simp only [Act.put, List.setIfInBounds_toArray, List.set_cons_zero, List.set_cons_succ]) | (refine Txt.tl_rowN (n := 70) (ty := 60) (by rfl) (by rfl) (by rfl) Rx.out (by kernel_rfl) (encNe.len x) ?_; simp only [Act.put, List.setIfInBounds_toArray, List.set_cons_zero, List.set_cons_succ]) | (refine Txt.tl_rowN (n := 70) (ty := 60) (by rfl) (by rfl) (by rfl) Ry.out (by kernel_rfl) (encNe.len y) ?_; simp only [Act.put, List.setIfInBounds_toArray, List.set_cons_zero, List.set_cons_succ])))
            refine Txt.tl_nil ?_
            go_wp2
            go_roundw
            case rel => exact ⟨k + 1, M2, by omega, by omega, rfl, O2.out, K2.out, by rw [Nat.min_eq_left (by omega)]; exact HE.out⟩
            case measure => simp [intOf]; omega
    · have hmin : min k n = n := by omega
      rw [hmin] at HS
      go_wp2
      go_end0
      exact ⟨rfl, M, HO.out, HK.out, HS.out⟩
end Nx
end Go.Proofs.YtgllkfolckbdhaaGreatDoor
