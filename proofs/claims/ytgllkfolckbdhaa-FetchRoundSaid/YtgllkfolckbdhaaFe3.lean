/-
  score.Board: Best.
-/
import Derived.Test.YtgllkfolckbdhaaFe2
set_option linter.unusedVariables false
set_option linter.unusedSimpArgs false
namespace Go.Proofs.Ytgllkfolckbdhaa
open Go.RowKit
namespace Fe
open Oct Ids Mp
open Mem (M It blk ids rows)
theorem and_B : ∀ m < 64, ∀ p < 6, bits BinOp.and IntKind.i64 ((m : Nat) : Int) ((2 ^ p : Nat) : Int) = if m.testBit p then ((2 ^ p : Nat) : Int) else 0 := by decide +kernel
theorem or_B : ∀ m < 64, ∀ p < 6, bits BinOp.or IntKind.i64 ((m : Nat) : Int) ((2 ^ p : Nat) : Int) = ((m ||| 2 ^ p : Nat) : Int) := by decide +kernel
/-- A better one. -/
def bstep (S : List Int) (m : Nat) (acc : Int × Bool) (p : Int) : Int × Bool := if m.testBit p.toNat = false ∧ (acc.2 = false ∨ S.getD acc.1.toNat 0 < S.getD p.toNat 0) then (p, true) else acc
def bestS (S : List Int) (sf : Int) (m : Nat) : Int × Bool := (prs sf).foldl (bstep S m) (0, false)
theorem prs_mem {sf p : Int} : p ∈ prs sf ↔ isP sf p = true := by
  unfold prs isP
  rw [List.mem_filter, decide_eq_true_eq, decide_eq_true_eq]
  simp only [List.mem_cons, List.not_mem_nil, or_false]
  omega
theorem best_in (S : List Int) (m : Nat) : ∀ (l : List Int) (acc : Int × Bool), (∀ p ∈ l, 0 ≤ p ∧ p < 6) → 0 ≤ acc.1 ∧ acc.1 < 6 → 0 ≤ (l.foldl (bstep S m) acc).1 ∧ (l.foldl (bstep S m) acc).1 < 6
  | [], acc, _, h => h
  | p :: l, acc, hl, h => by
    rw [List.foldl_cons]
    refine best_in S m l _ (fun q hq => hl q (List.mem_cons_of_mem _ hq)) ?_
    unfold bstep
    split
    · exact hl p List.mem_cons_self
    · exact h
/-- What one more peer makes. -/
theorem bstep_no {S : List Int} {m : Nat} {acc : Int × Bool} {p : Int} (h : m.testBit p.toNat = true) : bstep S m acc p = acc := by
  unfold bstep
  rw [if_neg (by rw [h]; simp)]
theorem bstep_first {S : List Int} {m : Nat} {a : Int} {p : Int} (h : m.testBit p.toNat = false) : bstep S m (a, false) p = (p, true) := by
  unfold bstep
  rw [if_pos ⟨h, .inl rfl⟩]
theorem bstep_more {S : List Int} {m : Nat} {a : Int} {p : Int} (h : m.testBit p.toNat = false) (h2 : S.getD a.toNat 0 < S.getD p.toNat 0) : bstep S m (a, true) p = (p, true) := by
  unfold bstep
  rw [if_pos ⟨h, .inr h2⟩]
theorem bstep_less {S : List Int} {m : Nat} {a : Int} {p : Int} (h2 : ¬ S.getD a.toNat 0 < S.getD p.toNat 0) : bstep S m (a, true) p = (a, true) := by
  unfold bstep
  rw [if_neg (by rintro ⟨_, h | h⟩; cases h; exact h2 h)]
set_option maxRecDepth 100000 in
set_option maxHeartbeats 2000000 in
theorem bbest (w : World) (b : Nat) (S : List Int) (sf : Int) (hS : SOk S sf) (hb : w.heap[b]? = some (bc S sf)) (m : Nat) (hm : m < 64) : Calls Try.prog 45 #[.pointer (some ⟨b, 0, none⟩), Tm m] w fun e w' => e = .returned (.tuple #[.int .i64 (bestS S sf m).1, .bool (bestS S sf m).2]) ∧ Keep (fun _ => False) w w' := by
  have HP : Hid (Calls Try.prog 52 #[.pointer (some ⟨b, 0, none⟩)] w fun e w' => ∃ v, e = .returned v ∧ M (fun _ => False) w w' [rows 3 1 eN v (prs sf)]) := bpeers w b S sf hS hb
  have HB : Hid (w.heap[b]? = some (bc S sf)) := hb
  have HSo : Hid (SOk S sf) := hS
  have HMm : Hid (m < 64) := hm
  have HIn : Hid (∀ p ∈ prs sf, 0 ≤ p ∧ p < 6) := fun p hp => by have := prs_mem.1 hp; unfold isP at this; have := of_decide_eq_true this; omega
  have HLn : Hid ((prs sf).length ≤ 6) := by
    show _ ≤ _
    unfold prs
    exact List.length_filter_le _ _
  have HE : Hid (bestS S sf m = (prs sf).foldl (bstep S m) (0, false)) := rfl
  clear hb hS hm
  generalize prs sf = L at HP HIn HLn HE
  generalize bestS S sf m = R at HE ⊢
  go_enter Try.func45, Try.ntmps45
  go_wp2_with (first | (go_at_call 52; refine HP.out.mono ?_; rintro e w1 ⟨v, rfl, m1⟩; obtain ⟨la, lc, ev, _⟩ := (show St.Own _ _ _ w1 v L from m1.get 0 rfl).any; subst ev; have HM : Hid (M (fun _ => False) w w1 [rows 3 1 eN (.slice la L.length lc) L]) := m1; clear m1; obtain ⟨n, hn⟩ : ∃ n, L.length = n := ⟨_, rfl⟩; have Hn : Hid (L.length = n) := hn; rw [hn] at HM ⊢; clear hn))
  go_loopw [6, 7, 13] (fun s6 s7 s13 wr => ∃ (k : Nat) (a : Int) (t : Bool), k ≤ n ∧ s6 = .int .i64 a ∧ s7 = .bool t ∧ s13 = .int .i64 k ∧ (a, t) = (L.take k).foldl (bstep S m) (0, false) ∧ wr.heap = w1.heap ∧ Keep (fun _ => False) w1 wr) (fun _ _ s13 _ => n - (intOf s13).toNat)
  case atStart => exact ⟨0, 0, false, Nat.zero_le _, by go_num, rfl, by go_num, rfl, rfl, Keep.refl _ _⟩
  case round =>
    obtain ⟨k, a, t, hk, rfl, rfl, rfl, hat, hhp, hkp⟩ := hrel
    have hn6 : n ≤ 6 := by have := Hn.out; have := HLn.out; omega
    have HA : Hid ((a, t) = (L.take k).foldl (bstep S m) (0, false)) := hat
    have HH : Hid (wr.heap = w1.heap) := hhp
    have HK : Hid (Keep (fun _ => False) w1 wr) := hkp
    clear hat hhp hkp
    by_cases hlt : k < n
    · obtain ⟨p, hp⟩ : ∃ p, L[k]? = some p := ⟨_, List.getElem?_eq_getElem (by rw [Hn.out]; exact hlt)⟩
      have hpin := HIn.out p (List.mem_of_getElem? hp)
      have hain : 0 ≤ a ∧ a < 6 := by
        have := best_in S m (L.take k) (0, false) (fun q hq => HIn.out q (List.mem_of_mem_take hq)) (by decide)
        rw [← HA.out] at this
        exact this
      have HN : Hid ((L.take (k + 1)).foldl (bstep S m) (0, false) = bstep S m (a, t) p) := by
        show _ = _
        rw [List.take_add_one, hp, List.foldl_append, ← HA.out]
        rfl
      obtain ⟨g0, o0, e0, _, hr0⟩ := (St.Own.slice (show St.Own 3 1 eN w1 (.slice la n lc) L from HM.out.get 0 rfl)).2.lay.resolve_left (by have := Hn.out; omega)
      subst e0
      have d0 : wr.cell? ⟨g0, o0 + k, none⟩ = some (.int .i64 p) := by
        have := hr0 k p hp 0 _ rfl
        rw [Nat.mul_one, Nat.add_zero] at this
        unfold World.cell? at this ⊢
        rw [HH.out]
        exact this
      obtain ⟨q, rfl⟩ : ∃ q : Nat, p = q := ⟨p.toNat, by omega⟩
      obtain ⟨r, rfl⟩ : ∃ r : Nat, a = r := ⟨a.toNat, by omega⟩
      have hq : q < 6 := by omega
      have hr : r < 6 := by omega
      have hq1 : (q : Int) < 6 := by omega
      have hr1 : (r : Int) < 6 := by omega
      have HBw : Hid (wr.drew.heap[b]? = some (bc S sf)) := by show wr.heap[b]? = _; rw [HH.out]; exact HM.out.keep.get HB.out (fun h => h)
      obtain ⟨_, _, cp⟩ := bc_cells HSo.out HBw.out
      have cq := cp q hq
      have cr := cp r hr
      have HQ : Hid (bstep S m ((r : Int), t) (q : Int) = bstep S m ((r : Int), t) (q : Int)) := rfl
      obtain ⟨sq, hsq⟩ : ∃ s, S.getD q 0 = s := ⟨_, rfl⟩
      obtain ⟨sr, hsr⟩ : ∃ s, S.getD r 0 = s := ⟨_, rfl⟩
      rw [hsq] at cq
      rw [hsr] at cr
      have Hsq : Hid (S.getD q 0 = sq) := hsq
      have Hsr : Hid (S.getD r 0 = sr) := hsr
      have hbit := bit_any wr.drew q hq
      have hand := and_B m HMm.out q hq
      obtain ⟨z, hz⟩ : ∃ z, ((2 ^ q : Nat) : Int) = z := ⟨_, rfl⟩
      have hz0 : z ≠ 0 := by rw [← hz]; have : 0 < 2 ^ q := Nat.two_pow_pos q; omega
      rw [hz] at hbit hand
      have HBt : Hid (Calls Try.prog 53 #[.int .i64 (q : Int)] wr.drew fun e w' => e = .returned (.int .i64 z) ∧ w' = wr.drew) := hbit
      clear cp hr0 hp hpin hain hsq hsr hz hbit
      by_cases ht : m.testBit q = true
      · rw [if_pos ht] at hand
        have HT : Hid (m.testBit (q : Int).toNat = true) := by show m.testBit q = true; exact ht
        have hzf : (z == 0) = false := by simpa using hz0
        clear ht hz0 cq cr
        go_wp2
        refine Txt.wp_region_text (fun w' => w' = wr.drew) [0, 0, 4, 0, 0, 0, 0, 0, 0, 0, 0, 0, 0, 0, 1, 0, 0, 0, 0, 0, 1, 0, 0, 0] (by kernel_rfl) (by kernel_rfl) rfl ?_
        (repeat (first | (refine Txt.tl_pure (v := ?_) (by rfl) ?_ ?_; rotate_left; (focus (intro _; go_simp; try with_reducible rfl)); simp only [Act.put, List.setIfInBounds_toArray, List.set_cons_zero, List.set_cons_succ]) | (refine Txt.tl_load (v := ?_) (by rfl) (by rfl) (by rfl) (by kernel_rfl) ?_ ?_; rotate_left; (focus assumption); simp only [Act.put, List.setIfInBounds_toArray, List.set_cons_zero, List.set_cons_succ]) | (refine Txt.tl_skip (by rfl) (by first | trivial | rfl | assumption) ?_; simp only [Act.put, List.setIfInBounds_toArray, List.set_cons_zero, List.set_cons_succ])))
        refine Txt.tl_call Try.func53 (by kernel_rfl) (by kernel_rfl) (by rfl) (by rfl) (by rfl) HBt.out ?_
        rintro e w2 ⟨rfl, rfl⟩
        refine ⟨_, rfl, rfl, ?_⟩
        simp only [Act.put, List.setIfInBounds_toArray, List.set_cons_zero, List.set_cons_succ]
        (repeat (first | (refine Txt.tl_pure (v := ?_) (by rfl) ?_ ?_; rotate_left; (focus (intro _; go_simp; try with_reducible rfl)); simp only [Act.put, List.setIfInBounds_toArray, List.set_cons_zero, List.set_cons_succ]) | (refine Txt.tl_load (v := ?_) (by rfl) (by rfl) (by rfl) (by kernel_rfl) ?_ ?_; rotate_left; (focus assumption); simp only [Act.put, List.setIfInBounds_toArray, List.set_cons_zero, List.set_cons_succ]) | (refine Txt.tl_skip (by rfl) (by first | trivial | rfl | assumption) ?_; simp only [Act.put, List.setIfInBounds_toArray, List.set_cons_zero, List.set_cons_succ])))
        refine Txt.tl_nil ?_
        go_wp2
        go_roundw
        case rel => exact ⟨k + 1, r, t, by omega, rfl, rfl, by go_num, by rw [HN.out, bstep_no HT.out], HH.out, HK.out.drew⟩
        case measure => simp [intOf]; omega
      · have ht' : m.testBit q = false := by simpa using ht
        rw [if_neg ht] at hand
        have HT : Hid (m.testBit (q : Int).toNat = false) := by show m.testBit q = false; exact ht'
        clear ht ht' hz0
        cases t with
        | false =>
          clear cq cr
          go_wp2
          refine Txt.wp_region_text (fun w' => w' = wr.drew) [0, 0, 4, 0, 0, 0, 0, 0, 0, 0, 0, 0, 0, 0, 1, 0, 0, 0, 0, 0, 1, 0, 0, 0] (by kernel_rfl) (by kernel_rfl) rfl ?_
          (repeat (first | (refine Txt.tl_pure (v := ?_) (by rfl) ?_ ?_; rotate_left; (focus (intro _; go_simp; try with_reducible rfl)); simp only [Act.put, List.setIfInBounds_toArray, List.set_cons_zero, List.set_cons_succ]) | (refine Txt.tl_load (v := ?_) (by rfl) (by rfl) (by rfl) (by kernel_rfl) ?_ ?_; rotate_left; (focus assumption); simp only [Act.put, List.setIfInBounds_toArray, List.set_cons_zero, List.set_cons_succ]) | (refine Txt.tl_skip (by rfl) (by first | trivial | rfl | assumption) ?_; simp only [Act.put, List.setIfInBounds_toArray, List.set_cons_zero, List.set_cons_succ])))
          refine Txt.tl_call Try.func53 (by kernel_rfl) (by kernel_rfl) (by rfl) (by rfl) (by rfl) HBt.out ?_
          rintro e w2 ⟨rfl, rfl⟩
          refine ⟨_, rfl, rfl, ?_⟩
          simp only [Act.put, List.setIfInBounds_toArray, List.set_cons_zero, List.set_cons_succ]
          (repeat (first | (refine Txt.tl_pure (v := ?_) (by rfl) ?_ ?_; rotate_left; (focus (intro _; go_simp; try with_reducible rfl)); simp only [Act.put, List.setIfInBounds_toArray, List.set_cons_zero, List.set_cons_succ]) | (refine Txt.tl_load (v := ?_) (by rfl) (by rfl) (by rfl) (by kernel_rfl) ?_ ?_; rotate_left; (focus assumption); simp only [Act.put, List.setIfInBounds_toArray, List.set_cons_zero, List.set_cons_succ]) | (refine Txt.tl_skip (by rfl) (by first | trivial | rfl | assumption) ?_; simp only [Act.put, List.setIfInBounds_toArray, List.set_cons_zero, List.set_cons_succ])))
          refine Txt.tl_nil ?_
          go_wp2
          go_roundw
          case rel => exact ⟨k + 1, q, true, by omega, rfl, rfl, by go_num, by rw [HN.out, bstep_first HT.out], HH.out, HK.out.drew⟩
          case measure => simp [intOf]; omega
        | true =>
          by_cases hgt : sr < sq
          · have HG : Hid (S.getD (r : Int).toNat 0 < S.getD (q : Int).toNat 0) := by show S.getD r 0 < S.getD q 0; rw [Hsr.out, Hsq.out]; exact hgt
            go_wp2
            refine Txt.wp_region_text (fun w' => w' = wr.drew) [0, 0, 4, 0, 0, 0, 0, 0, 0, 0, 0, 0, 0, 0, 1, 0, 0, 0, 0, 0, 1, 0, 0, 0] (by kernel_rfl) (by kernel_rfl) rfl ?_
            (repeat (first | (refine Txt.tl_pure (v := ?_) (by rfl) ?_ ?_; rotate_left; (focus (intro _; go_simp; try with_reducible rfl)); simp only [Act.put, List.setIfInBounds_toArray, List.set_cons_zero, List.set_cons_succ]) | (refine Txt.tl_load (v := ?_) (by rfl) (by rfl) (by rfl) (by kernel_rfl) ?_ ?_; rotate_left; (focus assumption); simp only [Act.put, List.setIfInBounds_toArray, List.set_cons_zero, List.set_cons_succ]) | (refine Txt.tl_skip (by rfl) (by first | trivial | rfl | assumption) ?_; simp only [Act.put, List.setIfInBounds_toArray, List.set_cons_zero, List.set_cons_succ])))
            refine Txt.tl_call Try.func53 (by kernel_rfl) (by kernel_rfl) (by rfl) (by rfl) (by rfl) HBt.out ?_
            rintro e w2 ⟨rfl, rfl⟩
            refine ⟨_, rfl, rfl, ?_⟩
            simp only [Act.put, List.setIfInBounds_toArray, List.set_cons_zero, List.set_cons_succ]
            (repeat (first | (refine Txt.tl_pure (v := ?_) (by rfl) ?_ ?_; rotate_left; (focus (intro _; go_simp; try with_reducible rfl)); simp only [Act.put, List.setIfInBounds_toArray, List.set_cons_zero, List.set_cons_succ]) | (refine Txt.tl_load (v := ?_) (by rfl) (by rfl) (by rfl) (by kernel_rfl) ?_ ?_; rotate_left; (focus assumption); simp only [Act.put, List.setIfInBounds_toArray, List.set_cons_zero, List.set_cons_succ]) | (refine Txt.tl_skip (by rfl) (by first | trivial | rfl | assumption) ?_; simp only [Act.put, List.setIfInBounds_toArray, List.set_cons_zero, List.set_cons_succ])))
            refine Txt.tl_nil ?_
            go_wp2
            go_roundw
            case rel => exact ⟨k + 1, q, true, by omega, rfl, rfl, by go_num, by rw [HN.out, bstep_more HT.out HG.out], HH.out, HK.out.drew⟩
            case measure => simp [intOf]; omega
          · have HG : Hid (S.getD (q : Int).toNat 0 ≤ S.getD (r : Int).toNat 0) := by show S.getD q 0 ≤ S.getD r 0; rw [Hsr.out, Hsq.out]; omega
            go_wp2
            refine Txt.wp_region_text (fun w' => w' = wr.drew) [0, 0, 4, 0, 0, 0, 0, 0, 0, 0, 0, 0, 0, 0, 1, 0, 0, 0, 0, 0, 1, 0, 0, 0] (by kernel_rfl) (by kernel_rfl) rfl ?_
            (repeat (first | (refine Txt.tl_pure (v := ?_) (by rfl) ?_ ?_; rotate_left; (focus (intro _; go_simp; try with_reducible rfl)); simp only [Act.put, List.setIfInBounds_toArray, List.set_cons_zero, List.set_cons_succ]) | (refine Txt.tl_load (v := ?_) (by rfl) (by rfl) (by rfl) (by kernel_rfl) ?_ ?_; rotate_left; (focus assumption); simp only [Act.put, List.setIfInBounds_toArray, List.set_cons_zero, List.set_cons_succ]) | (refine Txt.tl_skip (by rfl) (by first | trivial | rfl | assumption) ?_; simp only [Act.put, List.setIfInBounds_toArray, List.set_cons_zero, List.set_cons_succ])))
            refine Txt.tl_call Try.func53 (by kernel_rfl) (by kernel_rfl) (by rfl) (by rfl) (by rfl) HBt.out ?_
            rintro e w2 ⟨rfl, rfl⟩
            refine ⟨_, rfl, rfl, ?_⟩
            simp only [Act.put, List.setIfInBounds_toArray, List.set_cons_zero, List.set_cons_succ]
            (repeat (first | (refine Txt.tl_pure (v := ?_) (by rfl) ?_ ?_; rotate_left; (focus (intro _; go_simp; try with_reducible rfl)); simp only [Act.put, List.setIfInBounds_toArray, List.set_cons_zero, List.set_cons_succ]) | (refine Txt.tl_load (v := ?_) (by rfl) (by rfl) (by rfl) (by kernel_rfl) ?_ ?_; rotate_left; (focus assumption); simp only [Act.put, List.setIfInBounds_toArray, List.set_cons_zero, List.set_cons_succ]) | (refine Txt.tl_skip (by rfl) (by first | trivial | rfl | assumption) ?_; simp only [Act.put, List.setIfInBounds_toArray, List.set_cons_zero, List.set_cons_succ])))
            refine Txt.tl_nil ?_
            go_wp2
            go_roundw
            case rel => exact ⟨k + 1, r, true, by omega, rfl, rfl, by go_num, by rw [HN.out, bstep_less (Int.not_lt.2 HG.out)], HH.out, HK.out.drew⟩
            case measure => simp [intOf]; omega
    · obtain rfl : k = n := by omega
      have HF : Hid ((a, t) = R) := by show _ = _; rw [HE.out, HA.out, List.take_of_length_le (by rw [Hn.out]; exact Nat.le_refl _)]
      go_wp2
      go_ret2
      exact ⟨by rw [← HF.out]; rfl, HM.out.keep.trans HK.out⟩
end Fe
end Go.Proofs.Ytgllkfolckbdhaa
