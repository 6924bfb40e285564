/-
  slices.BinarySearchFunc at pen.ids. (Printed by wip/gen/pnb.py.)
-/
import Derived.Test.YtpchpdnjgdpdgaaGreatDoorPn6
import Derived.Test.YtpchpdnjgdpdgaaGreatDoorGIf
set_option linter.unusedVariables false
set_option linter.unusedSimpArgs false
namespace Go.Proofs.YtpchpdnjgdpdgaaGreatDoor
open Go.RowKit
namespace Pn
open Oct Ids
set_option maxRecDepth 100000 in
set_option maxHeartbeats 4000000 in
theorem psearch (w : World) (a : Option Addr) (n c : Nat) (els : List (List UInt8)) (h : At w a n els) (hm : n ≤ 1000000) (t : List UInt8) (ht : t.length = 32) (g : Nat) (bs ls : Array Value) (cf : List UInt8 → Int)
    (eg : ∀ args w, (callFunc g args).run Tryz.prog w = .ok (.enter g args) w) (hp : CmpT w g bs ls t cf) (hmono : ∀ (i j : Nat) (x y : List UInt8), i ≤ j → els[i]? = some x → els[j]? = some y → cf y < 0 → cf x < 0) :
    Calls Tryz.prog 137 #[.slice a n c, idv t, .func (.func g) bs ls] w fun e w' => ∃ (i : Nat) (b : Bool), e = .returned (.tuple #[.int .i64 i, .bool b]) ∧ Ids.Found cf els i b ∧ Keep (fun _ => False) w w' := by
  have H : Hid (At w a n els) := h
  have HP : Hid (CmpT w g bs ls t cf) := hp
  have HM : Hid (∀ (i j : Nat) (x y : List UInt8), i ≤ j → els[i]? = some x → els[j]? = some y → cf y < 0 → cf x < 0) := hmono
  have HN : Hid (els.length = n) := h.len
  have Lt : Hid (t.length = 32) := ht
  have R0 : Hid ((w.alloc (.cells (t.map bv).toArray 28)).rangeAt w.heap.size 0 (t.map bv)) := range_new w _ _
  have K0 : Hid (Keep (fun _ => False) w (w.alloc (.cells (t.map bv).toArray 28))) := (Keep.refl _ _).alloc _
  have Z0 : Hid (w.heap.size < (w.alloc (.cells (t.map bv).toArray 28)).heap.size) := by show _ < _; simp
  clear h hp hmono ht
  go_enter Tryz.func137, Tryz.ntmps137
  go_wp2
  go_loopw [9, 10] (fun s9 s10 wr => ∃ lo hi : Nat, s9 = .int .i64 lo ∧ s10 = .int .i64 hi ∧ lo ≤ hi ∧ hi ≤ n ∧ Keep (fun _ => False) (w.alloc (.cells (t.map bv).toArray 28)) wr ∧ (∀ (j : Nat) (y : List UInt8), j < lo → els[j]? = some y → cf y < 0) ∧ (∀ (j : Nat) (y : List UInt8), hi ≤ j → els[j]? = some y → 0 ≤ cf y)) (fun s9 s10 _ => (intOf s10).toNat - (intOf s9).toNat)
  case atStart => exact ⟨0, n, rfl, rfl, Nat.zero_le _, Nat.le_refl _, Keep.refl _ _, fun j y hj => absurd hj (Nat.not_lt_zero _), fun j y hj hy => by have := (List.getElem?_eq_some_iff.1 hy).1; have := HN.out; omega⟩
  case round =>
    obtain ⟨lo, hi, rfl, rfl, hlh, hhn, hk, hlo, hhi⟩ := hrel
    have HK : Hid _ := hk
    have KW : Hid (Keep (fun _ => False) w wr) := K0.out.trans hk
    have HL : Hid _ := hlo
    have HH : Hid _ := hhi
    have RT : Hid (wr.rangeAt w.heap.size 0 (t.map bv)) := hk.range Z0.out (fun h => h) R0.out
    clear hk hlo hhi
    by_cases hlt : lo < hi
    · obtain ⟨m, hm0⟩ : ∃ m, (lo + hi) / 2 = m := ⟨_, rfl⟩
      have hme : ((lo : Int) + (hi : Int)) / 2 = (m : Int) := by omega
      have hm1 : lo ≤ m := by omega
      have hm2 : m < hi := by omega
      have hm3 : m < n := by omega
      clear hm0
      obtain ⟨x, hx⟩ : ∃ x, els[m]? = some x := ⟨_, List.getElem?_eq_getElem (by rw [HN.out]; omega)⟩
      obtain ⟨b1, o1, rfl, hb1, hr1⟩ : ∃ b off, a = some ⟨b, off, none⟩ ∧ b < w.heap.size ∧ ∀ i x, els[i]? = some x → w.rangeAt b (off + i * 32) (x.map bv) := by rcases H.out.lay with e | e; omega; exact e
      have R1 : Hid (wr.rangeAt b1 (o1 + m * 32) (x.map bv)) := KW.out.range hb1 (fun h => h) (hr1 _ x hx)
      have Lx : Hid (x.length = 32) := H.out.size x (List.mem_of_getElem? hx)
      have L1 : Hid ((x.map bv).length = 32) := by show (x.map bv).length = 32; rw [List.length_map, Lx.out]
      have L2 : Hid ((t.map bv).length = 32) := by show (t.map bv).length = 32; rw [List.length_map, Lt.out]
      have Hx : Hid _ := hx
      have HC : Hid (Calls Tryz.prog g (bs ++ #[idv x, idv t] ++ ls) wr.drew fun e w2 => e = .returned (.int .i64 (cf x)) ∧ Keep (fun _ => False) wr.drew w2) := HP.out _ x KW.out.drew Lx.out
      clear hr1 hx
      by_cases hcx : cf x < 0
      · go_wp2
        refine Txt.wp_region_text (fun _ => True) [0, 0, 0, 0, 1, 1, 4, 0] (by kernel_rfl) (by kernel_rfl) trivial ?_
        (repeat (first | (refine Txt.tl_pure (v := ?_) (by rfl) ?_ ?_; rotate_left; (focus (intro _; go_simp; try with_reducible rfl)); simp only [Act.put, List.setIfInBounds_toArray, List.set_cons_zero, List.set_cons_succ]) | (refine Txt.tl_skip (by rfl) (by first | trivial | exact HS.out) ?_; simp only [Act.put, List.setIfInBounds_toArray, List.set_cons_zero, List.set_cons_succ]) | (refine Txt.tl_load (v := ?_) (by rfl) (by rfl) (by rfl) (by kernel_rfl) ?_ ?_; rotate_left; (focus (first | assumption | (go_simp; done) | (go_simp; with_reducible rfl))); simp only [Act.put, List.setIfInBounds_toArray, List.set_cons_zero, List.set_cons_succ]) | (refine Txt.tl_loadB (v := ?_) (by rfl) (by rfl) (by rfl) (by kernel_rfl) ?_ ?_; rotate_left; (focus assumption); simp only [Act.put, List.setIfInBounds_toArray, List.set_cons_zero, List.set_cons_succ])))
        refine Txt.tl_loadRow (by rfl) (by rfl) (by rfl) R1.out (by rw [L1.out]; kernel_rfl) ?_
        simp only [Act.put, List.setIfInBounds_toArray, List.set_cons_zero, List.set_cons_succ]
        (repeat (first | (refine Txt.tl_pure (v := ?_) (by rfl) ?_ ?_; rotate_left; (focus (intro _; go_simp; try with_reducible rfl)); simp only [Act.put, List.setIfInBounds_toArray, List.set_cons_zero, List.set_cons_succ]) | (refine Txt.tl_skip (by rfl) (by first | trivial | exact HS.out) ?_; simp only [Act.put, List.setIfInBounds_toArray, List.set_cons_zero, List.set_cons_succ]) | (refine Txt.tl_load (v := ?_) (by rfl) (by rfl) (by rfl) (by kernel_rfl) ?_ ?_; rotate_left; (focus (first | assumption | (go_simp; done) | (go_simp; with_reducible rfl))); simp only [Act.put, List.setIfInBounds_toArray, List.set_cons_zero, List.set_cons_succ]) | (refine Txt.tl_loadB (v := ?_) (by rfl) (by rfl) (by rfl) (by kernel_rfl) ?_ ?_; rotate_left; (focus assumption); simp only [Act.put, List.setIfInBounds_toArray, List.set_cons_zero, List.set_cons_succ])))
        refine Txt.tl_loadRow (by rfl) (by rfl) (by rfl) RT.out (by rw [L2.out]; kernel_rfl) ?_
        simp only [Act.put, List.setIfInBounds_toArray, List.set_cons_zero, List.set_cons_succ]
        (repeat (first | (refine Txt.tl_pure (v := ?_) (by rfl) ?_ ?_; rotate_left; (focus (intro _; go_simp; try with_reducible rfl)); simp only [Act.put, List.setIfInBounds_toArray, List.set_cons_zero, List.set_cons_succ]) | (refine Txt.tl_skip (by rfl) (by first | trivial | exact HS.out) ?_; simp only [Act.put, List.setIfInBounds_toArray, List.set_cons_zero, List.set_cons_succ]) | (refine Txt.tl_load (v := ?_) (by rfl) (by rfl) (by rfl) (by kernel_rfl) ?_ ?_; rotate_left; (focus (first | assumption | (go_simp; done) | (go_simp; with_reducible rfl))); simp only [Act.put, List.setIfInBounds_toArray, List.set_cons_zero, List.set_cons_succ]) | (refine Txt.tl_loadB (v := ?_) (by rfl) (by rfl) (by rfl) (by kernel_rfl) ?_ ?_; rotate_left; (focus assumption); simp only [Act.put, List.setIfInBounds_toArray, List.set_cons_zero, List.set_cons_succ])))
        refine Txt.tl_callv (vs := #[idv x, idv t]) (by rfl) (by rfl) (by rfl) eg (by rfl) HC.out ?_
        rintro e w2 ⟨rfl, h2⟩
        have K2 : Hid _ := h2
        clear h2
        refine ⟨_, rfl, trivial, ?_⟩
        simp only [Act.put, List.setIfInBounds_toArray, List.set_cons_zero, List.set_cons_succ]
        (repeat (first | (refine Txt.tl_pure (v := ?_) (by rfl) ?_ ?_; rotate_left; (focus (intro _; go_simp; try with_reducible rfl)); simp only [Act.put, List.setIfInBounds_toArray, List.set_cons_zero, List.set_cons_succ]) | (refine Txt.tl_skip (by rfl) (by first | trivial | exact HS.out) ?_; simp only [Act.put, List.setIfInBounds_toArray, List.set_cons_zero, List.set_cons_succ]) | (refine Txt.tl_load (v := ?_) (by rfl) (by rfl) (by rfl) (by kernel_rfl) ?_ ?_; rotate_left; (focus (first | assumption | (go_simp; done) | (go_simp; with_reducible rfl))); simp only [Act.put, List.setIfInBounds_toArray, List.set_cons_zero, List.set_cons_succ]) | (refine Txt.tl_loadB (v := ?_) (by rfl) (by rfl) (by rfl) (by kernel_rfl) ?_ ?_; rotate_left; (focus assumption); simp only [Act.put, List.setIfInBounds_toArray, List.set_cons_zero, List.set_cons_succ])))
        refine Txt.tl_nil ?_
        go_wp2
        go_roundw
        case rel =>
          refine ⟨m + 1, hi, rfl, rfl, by omega, hhn, HK.out.drew.trans K2.out, fun j y hj hy => ?_, HH.out⟩
          exact HM.out j m y x (by omega) hy Hx.out hcx
        case measure => simp [intOf]; omega
      · have hcx' : 0 ≤ cf x := by omega
        go_wp2
        refine Txt.wp_region_text (fun _ => True) [0, 0, 0, 0, 1, 1, 4, 0] (by kernel_rfl) (by kernel_rfl) trivial ?_
        (repeat (first | (refine Txt.tl_pure (v := ?_) (by rfl) ?_ ?_; rotate_left; (focus (intro _; go_simp; try with_reducible rfl)); simp only [Act.put, List.setIfInBounds_toArray, List.set_cons_zero, List.set_cons_succ]) | (refine Txt.tl_skip (by rfl) (by first | trivial | exact HS.out) ?_; simp only [Act.put, List.setIfInBounds_toArray, List.set_cons_zero, List.set_cons_succ]) | (refine Txt.tl_load (v := ?_) (by rfl) (by rfl) (by rfl) (by kernel_rfl) ?_ ?_; rotate_left; (focus (first | assumption | (go_simp; done) | (go_simp; with_reducible rfl))); simp only [Act.put, List.setIfInBounds_toArray, List.set_cons_zero, List.set_cons_succ]) | (refine Txt.tl_loadB (v := ?_) (by rfl) (by rfl) (by rfl) (by kernel_rfl) ?_ ?_; rotate_left; (focus assumption); simp only [Act.put, List.setIfInBounds_toArray, List.set_cons_zero, List.set_cons_succ])))
        refine Txt.tl_loadRow (by rfl) (by rfl) (by rfl) R1.out (by rw [L1.out]; kernel_rfl) ?_
        simp only [Act.put, List.setIfInBounds_toArray, List.set_cons_zero, List.set_cons_succ]
        (repeat (first | (refine Txt.tl_pure (v := ?_) (by rfl) ?_ ?_; rotate_left; (focus (intro _; go_simp; try with_reducible rfl)); simp only [Act.put, List.setIfInBounds_toArray, List.set_cons_zero, List.set_cons_succ]) | (refine Txt.tl_skip (by rfl) (by first | trivial | exact HS.out) ?_; simp only [Act.put, List.setIfInBounds_toArray, List.set_cons_zero, List.set_cons_succ]) | (refine Txt.tl_load (v := ?_) (by rfl) (by rfl) (by rfl) (by kernel_rfl) ?_ ?_; rotate_left; (focus (first | assumption | (go_simp; done) | (go_simp; with_reducible rfl))); simp only [Act.put, List.setIfInBounds_toArray, List.set_cons_zero, List.set_cons_succ]) | (refine Txt.tl_loadB (v := ?_) (by rfl) (by rfl) (by rfl) (by kernel_rfl) ?_ ?_; rotate_left; (focus assumption); simp only [Act.put, List.setIfInBounds_toArray, List.set_cons_zero, List.set_cons_succ])))
        refine Txt.tl_loadRow (by rfl) (by rfl) (by rfl) RT.out (by rw [L2.out]; kernel_rfl) ?_
        simp only [Act.put, List.setIfInBounds_toArray, List.set_cons_zero, List.set_cons_succ]
        (repeat (first | (refine Txt.tl_pure (v := ?_) (by rfl) ?_ ?_; rotate_left; (focus (intro _; go_simp; try with_reducible rfl)); simp only [Act.put, List.setIfInBounds_toArray, List.set_cons_zero, List.set_cons_succ]) | (refine Txt.tl_skip (by rfl) (by first | trivial | exact HS.out) ?_; simp only [Act.put, List.setIfInBounds_toArray, List.set_cons_zero, List.set_cons_succ]) | (refine Txt.tl_load (v := ?_) (by rfl) (by rfl) (by rfl) (by kernel_rfl) ?_ ?_; rotate_left; (focus (first | assumption | (go_simp; done) | (go_simp; with_reducible rfl))); simp only [Act.put, List.setIfInBounds_toArray, List.set_cons_zero, List.set_cons_succ]) | (refine Txt.tl_loadB (v := ?_) (by rfl) (by rfl) (by rfl) (by kernel_rfl) ?_ ?_; rotate_left; (focus assumption); simp only [Act.put, List.setIfInBounds_toArray, List.set_cons_zero, List.set_cons_succ])))
        refine Txt.tl_callv (vs := #[idv x, idv t]) (by rfl) (by rfl) (by rfl) eg (by rfl) HC.out ?_
        rintro e w2 ⟨rfl, h2⟩
        have K2 : Hid _ := h2
        clear h2
        refine ⟨_, rfl, trivial, ?_⟩
        simp only [Act.put, List.setIfInBounds_toArray, List.set_cons_zero, List.set_cons_succ]
        (repeat (first | (refine Txt.tl_pure (v := ?_) (by rfl) ?_ ?_; rotate_left; (focus (intro _; go_simp; try with_reducible rfl)); simp only [Act.put, List.setIfInBounds_toArray, List.set_cons_zero, List.set_cons_succ]) | (refine Txt.tl_skip (by rfl) (by first | trivial | exact HS.out) ?_; simp only [Act.put, List.setIfInBounds_toArray, List.set_cons_zero, List.set_cons_succ]) | (refine Txt.tl_load (v := ?_) (by rfl) (by rfl) (by rfl) (by kernel_rfl) ?_ ?_; rotate_left; (focus (first | assumption | (go_simp; done) | (go_simp; with_reducible rfl))); simp only [Act.put, List.setIfInBounds_toArray, List.set_cons_zero, List.set_cons_succ]) | (refine Txt.tl_loadB (v := ?_) (by rfl) (by rfl) (by rfl) (by kernel_rfl) ?_ ?_; rotate_left; (focus assumption); simp only [Act.put, List.setIfInBounds_toArray, List.set_cons_zero, List.set_cons_succ])))
        refine Txt.tl_nil ?_
        go_wp2
        go_roundw
        case rel =>
          refine ⟨lo, m, rfl, rfl, by omega, by omega, HK.out.drew.trans K2.out, HL.out, fun j y hj hy => ?_⟩
          by_cases e : cf y < 0
          · exact absurd (HM.out m j x y hj Hx.out hy e) (by omega)
          · omega
        case measure => simp [intOf]; omega
    · obtain rfl : hi = lo := by omega
      by_cases hln : hi < n
      · obtain ⟨x, hx⟩ : ∃ x, els[hi]? = some x := ⟨_, List.getElem?_eq_getElem (by rw [HN.out]; omega)⟩
        obtain ⟨b1, o1, rfl, hb1, hr1⟩ : ∃ b off, a = some ⟨b, off, none⟩ ∧ b < w.heap.size ∧ ∀ i x, els[i]? = some x → w.rangeAt b (off + i * 32) (x.map bv) := by rcases H.out.lay with e | e; omega; exact e
        have R1 : Hid (wr.rangeAt b1 (o1 + hi * 32) (x.map bv)) := KW.out.range hb1 (fun h => h) (hr1 _ x hx)
        have Lx : Hid (x.length = 32) := H.out.size x (List.mem_of_getElem? hx)
        have L1 : Hid ((x.map bv).length = 32) := by show (x.map bv).length = 32; rw [List.length_map, Lx.out]
        have L2 : Hid ((t.map bv).length = 32) := by show (t.map bv).length = 32; rw [List.length_map, Lt.out]
        have Hx : Hid _ := hx
        have HC : Hid (Calls Tryz.prog g (bs ++ #[idv x, idv t] ++ ls) wr.drew fun e w2 => e = .returned (.int .i64 (cf x)) ∧ Keep (fun _ => False) wr.drew w2) := HP.out _ x KW.out.drew Lx.out
        clear hr1 hx
        go_wp2
        refine Txt.wp_region_text (fun _ => True) [0, 0, 0, 0, 0, 0, 0, 0, 0, 1, 1, 4, 0, 0, 0, 0] (by kernel_rfl) (by kernel_rfl) trivial ?_
        (repeat (first | (refine Txt.tl_pure (v := ?_) (by rfl) ?_ ?_; rotate_left; (focus (intro _; go_simp; try with_reducible rfl)); simp only [Act.put, List.setIfInBounds_toArray, List.set_cons_zero, List.set_cons_succ]) | (refine Txt.tl_skip (by rfl) (by first | trivial | exact HS.out) ?_; simp only [Act.put, List.setIfInBounds_toArray, List.set_cons_zero, List.set_cons_succ]) | (refine Txt.tl_load (v := ?_) (by rfl) (by rfl) (by rfl) (by kernel_rfl) ?_ ?_; rotate_left; (focus (first | assumption | (go_simp; done) | (go_simp; with_reducible rfl))); simp only [Act.put, List.setIfInBounds_toArray, List.set_cons_zero, List.set_cons_succ]) | (refine Txt.tl_loadB (v := ?_) (by rfl) (by rfl) (by rfl) (by kernel_rfl) ?_ ?_; rotate_left; (focus assumption); simp only [Act.put, List.setIfInBounds_toArray, List.set_cons_zero, List.set_cons_succ])))
        refine Txt.tl_loadRow (by rfl) (by rfl) (by rfl) R1.out (by rw [L1.out]; kernel_rfl) ?_
        simp only [Act.put, List.setIfInBounds_toArray, List.set_cons_zero, List.set_cons_succ]
        (repeat (first | (refine Txt.tl_pure (v := ?_) (by rfl) ?_ ?_; rotate_left; (focus (intro _; go_simp; try with_reducible rfl)); simp only [Act.put, List.setIfInBounds_toArray, List.set_cons_zero, List.set_cons_succ]) | (refine Txt.tl_skip (by rfl) (by first | trivial | exact HS.out) ?_; simp only [Act.put, List.setIfInBounds_toArray, List.set_cons_zero, List.set_cons_succ]) | (refine Txt.tl_load (v := ?_) (by rfl) (by rfl) (by rfl) (by kernel_rfl) ?_ ?_; rotate_left; (focus (first | assumption | (go_simp; done) | (go_simp; with_reducible rfl))); simp only [Act.put, List.setIfInBounds_toArray, List.set_cons_zero, List.set_cons_succ]) | (refine Txt.tl_loadB (v := ?_) (by rfl) (by rfl) (by rfl) (by kernel_rfl) ?_ ?_; rotate_left; (focus assumption); simp only [Act.put, List.setIfInBounds_toArray, List.set_cons_zero, List.set_cons_succ])))
        refine Txt.tl_loadRow (by rfl) (by rfl) (by rfl) RT.out (by rw [L2.out]; kernel_rfl) ?_
        simp only [Act.put, List.setIfInBounds_toArray, List.set_cons_zero, List.set_cons_succ]
        (repeat (first | (refine Txt.tl_pure (v := ?_) (by rfl) ?_ ?_; rotate_left; (focus (intro _; go_simp; try with_reducible rfl)); simp only [Act.put, List.setIfInBounds_toArray, List.set_cons_zero, List.set_cons_succ]) | (refine Txt.tl_skip (by rfl) (by first | trivial | exact HS.out) ?_; simp only [Act.put, List.setIfInBounds_toArray, List.set_cons_zero, List.set_cons_succ]) | (refine Txt.tl_load (v := ?_) (by rfl) (by rfl) (by rfl) (by kernel_rfl) ?_ ?_; rotate_left; (focus (first | assumption | (go_simp; done) | (go_simp; with_reducible rfl))); simp only [Act.put, List.setIfInBounds_toArray, List.set_cons_zero, List.set_cons_succ]) | (refine Txt.tl_loadB (v := ?_) (by rfl) (by rfl) (by rfl) (by kernel_rfl) ?_ ?_; rotate_left; (focus assumption); simp only [Act.put, List.setIfInBounds_toArray, List.set_cons_zero, List.set_cons_succ])))
        refine Txt.tl_callv (vs := #[idv x, idv t]) (by rfl) (by rfl) (by rfl) eg (by rfl) HC.out ?_
        rintro e w2 ⟨rfl, h2⟩
        have K2 : Hid _ := h2
        clear h2
        refine ⟨_, rfl, trivial, ?_⟩
        simp only [Act.put, List.setIfInBounds_toArray, List.set_cons_zero, List.set_cons_succ]
        (repeat (first | (refine Txt.tl_pure (v := ?_) (by rfl) ?_ ?_; rotate_left; (focus (intro _; go_simp; try with_reducible rfl)); simp only [Act.put, List.setIfInBounds_toArray, List.set_cons_zero, List.set_cons_succ]) | (refine Txt.tl_skip (by rfl) (by first | trivial | exact HS.out) ?_; simp only [Act.put, List.setIfInBounds_toArray, List.set_cons_zero, List.set_cons_succ]) | (refine Txt.tl_load (v := ?_) (by rfl) (by rfl) (by rfl) (by kernel_rfl) ?_ ?_; rotate_left; (focus (first | assumption | (go_simp; done) | (go_simp; with_reducible rfl))); simp only [Act.put, List.setIfInBounds_toArray, List.set_cons_zero, List.set_cons_succ]) | (refine Txt.tl_loadB (v := ?_) (by rfl) (by rfl) (by rfl) (by kernel_rfl) ?_ ?_; rotate_left; (focus assumption); simp only [Act.put, List.setIfInBounds_toArray, List.set_cons_zero, List.set_cons_succ])))
        refine Txt.tl_nil ?_
        go_wp2
        go_ret2
        refine ⟨hi, decide (cf x = 0), rfl, ⟨by rw [HN.out]; omega, HL.out, HH.out, ?_⟩, KW.out.drew.trans K2.out⟩
        rw [Hx.out]
        simp
      · go_wp2
        refine Txt.wp_region_text (fun _ => True) [0, 0, 0, 0, 0, 0, 0, 0, 0, 1, 1, 4, 0, 0, 0, 0] (by kernel_rfl) (by kernel_rfl) trivial ?_
        (repeat (first | (refine Txt.tl_pure (v := ?_) (by rfl) ?_ ?_; rotate_left; (focus (intro _; go_simp; try with_reducible rfl)); simp only [Act.put, List.setIfInBounds_toArray, List.set_cons_zero, List.set_cons_succ]) | (refine Txt.tl_skip (by rfl) (by first | trivial | exact HS.out) ?_; simp only [Act.put, List.setIfInBounds_toArray, List.set_cons_zero, List.set_cons_succ]) | (refine Txt.tl_load (v := ?_) (by rfl) (by rfl) (by rfl) (by kernel_rfl) ?_ ?_; rotate_left; (focus (first | assumption | (go_simp; done) | (go_simp; with_reducible rfl))); simp only [Act.put, List.setIfInBounds_toArray, List.set_cons_zero, List.set_cons_succ]) | (refine Txt.tl_loadB (v := ?_) (by rfl) (by rfl) (by rfl) (by kernel_rfl) ?_ ?_; rotate_left; (focus assumption); simp only [Act.put, List.setIfInBounds_toArray, List.set_cons_zero, List.set_cons_succ])))
        refine Txt.tl_nil ?_
        go_wp2
        go_ret2
        refine ⟨hi, false, rfl, ⟨by rw [HN.out]; omega, HL.out, HH.out, ?_⟩, KW.out.drew⟩
        have e : els[hi]? = none := List.getElem?_eq_none (by rw [HN.out]; omega)
        rw [e]
        simp
/-- 'slices.BinarySearchFunc' of a set, by ident.Compare. -/
theorem psearch_set (w : World) (a : Option Addr) (n c : Nat) (els : List (List UInt8)) (h : At w a n els) (hm : n ≤ 1000000) (hs : IdL.Srt els) (t : List UInt8) (ht : t.length = 32) :
    Calls Tryz.prog 137 #[.slice a n c, idv t, .func (.func 86) #[] #[]] w fun e w' => ∃ (i : Nat), e = .returned (.tuple #[.int .i64 i, .bool (decide (t ∈ els))]) ∧ Keep (fun _ => False) w w' :=
  (psearch w a n c els h hm t ht _ #[] #[] _ compare_eg (compare_cmpT w t ht) (srt_mono hs t)).mono fun e w' ⟨i, b, he, hf, hk⟩ => ⟨i, by rw [he, found_mem hs hf], hk⟩
end Pn
end Go.Proofs.YtpchpdnjgdpdgaaGreatDoor
