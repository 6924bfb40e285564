/-
  'petrellaw06.IdentBack': what is put in, and taken away, is as it was; what is less, and both, is all. For every input.
-/
import Derived.Test.YtkoolpalhahigaaIdSets
set_option linter.unusedVariables false
set_option linter.unusedSimpArgs false
namespace Go.Proofs.Ytkoolpalhahigaa
open Go.RowKit Go.ChangeShapes Go.WideShapes Go.ChangeAt
namespace IdentBack
open Oct Ids Mem IdentSets
theorem lessL_le (l m : List (List UInt8)) : (IdL.lessL l m).length ≤ l.length := Nat.le_trans (List.length_filter_le _ _) (IdL.setL_len l)
theorem butL_le (l : List (List UInt8)) (x : List UInt8) : (IdL.butL (IdL.setL l) x).length ≤ l.length := Nat.le_trans (List.length_filter_le _ _) (IdL.setL_len l)
theorem le_tr {n k : Nat} (h : n = k) (h2 : k ≤ 100) : n ≤ 100000 := by omega
theorem le_ad {n k n2 k2 : Nat} (h : n = k) (h1 : k ≤ 60) (h' : n2 = k2) (h2 : k2 ≤ 60) : n + n2 ≤ 100000 := by omega
set_option maxRecDepth 100000 in
set_option maxHeartbeats 8000000 in
theorem walk (w : World) (a a2 : Option Addr) (n c n2 c2 : Nat) (l m : List (List UInt8)) (x : List UInt8) (h1 : At w a n l) (h2 : At w a2 n2 m) (hx : x.length = 32) :
    Calls Try.prog 6 #[.slice a n c, .slice a2 n2 c2, idv x] w fun e w' => e = .returned (.bool true) ∧ Below w.heap.size w w' := by
  have hn := h1.most
  have hn2 := h2.most
  unfold maxLen at hn hn2
  have A1 : Hid (At w a n l) := h1
  have A2 : Hid (At w a2 n2 m) := h2
  have Lx : Hid (x.length = 32) := hx
  have Rx : Hid ((x.map bv).length = 32) := by show _ = _; rw [List.length_map, hx]
  have HM : Hid (M (fun _ => False) w (w.alloc (.cells (x.map bv).toArray 26)) [ib w.heap.size x]) := (M.start _ w).alloc _ rfl
  have HZ : Hid ((IdL.setL l).length ≤ n) := by show _ ≤ _; have := IdL.setL_len l; rw [h1.len] at this; exact this
  have HN : Hid (l.length = n) := h1.len
  have HN2 : Hid (m.length = n2) := h2.len
  have HE : Hid (IdL.setL (IdL.lessL l m ++ m) = IdL.setL (l ++ m)) := IdL.less_both l m
  have HLen : Hid ((IdL.setL (IdL.lessL l m ++ IdL.lessL m l)).length = (IdL.lessL l m).length + (IdL.lessL m l).length) := IdL.less_len l m
  have HL1 : Hid ((IdL.lessL l m).length ≤ n) := by show _ ≤ _; have := lessL_le l m; rw [h1.len] at this; exact this
  have HL2 : Hid ((IdL.lessL m l).length ≤ n2) := by show _ ≤ _; have := lessL_le m l; rw [h2.len] at this; exact this
  clear h1 h2 hx
  by_cases hgo : n ≤ 60 ∧ n2 ≤ 60
  · obtain ⟨g1, g2⟩ := hgo
    have HL1 : Hid ((IdL.lessL l m).length ≤ 60) := Nat.le_trans HL1.out g1
    have HL2 : Hid ((IdL.lessL m l).length ≤ 60) := Nat.le_trans HL2.out g2
    have HBL : Hid ((IdL.butL (IdL.setL l) x).length ≤ 100) := by show _ ≤ _; have := butL_le l x; rw [HN.out] at this; omega
    have HWL : Hid ((IdL.setL (l ++ [x])).length ≤ 100) := by show _ ≤ _; have := IdL.setL_len (l ++ [x]); rw [List.length_append, HN.out] at this; simp at this; omega
    by_cases hin : x ∈ l
    · have HIN : Hid (x ∈ l) := hin
      have HB : Hid (IdL.setL (IdL.butL (IdL.setL l) x ++ [x]) = IdL.setL l) := IdL.put_back hin
      have hd : decide (x ∈ l) = true := decide_eq_true hin
      clear hin
      go_enter Try.func6, Try.ntmps6
      go_wp2_with (first | (go_at_call 25; refine (much_no _ a a2 n c n2 c2 g1 g2).mono ?_; rintro e w' ⟨rfl, rfl⟩) | (go_at_call 13; refine (set_any _ a n c l (A1.out.calm HM.out.keep) (by omega)).mono ?_; rintro e w1 ⟨v, rfl, h1⟩; obtain ⟨a3, n3, c3, e3, at3, HN3, _⟩ := h1.1.any'; subst e3; have HM : Hid (M (fun _ => False) w w1 [ib w.heap.size x, ids (.slice a3 n3 c3) (IdL.setL l)]) := HM.out.add (x := ids (.slice a3 n3 c3) (IdL.setL l)) h1.2.1 h1.1 (fun k hk => ⟨h1.2.2 k hk, h1.1.lt hk⟩); clear h1 at3) | (refine St.wl_load tyIdP (by rfl) rfl rfl (HM.out.range 0 rfl) Rx.out ?_; simp only [Act.put, List.setIfInBounds_toArray, List.set_cons_zero, List.set_cons_succ]) | (go_at_call 26; refine (has_any _ a n c l (A1.out.calm HM.out.keep) (by omega) x Lx.out).mono ?_; rw [hd]; rintro e w2 ⟨rfl, k1⟩; have HM : Hid _ := HM.out.calm k1; clear k1))
      have HS : Hid (w2.rangeAt w.heap.size 0 (x.map bv)) := HM.out.range 0 rfl
      refine Txt.wp_region_text (fun w' => w'.rangeAt w.heap.size 0 (x.map bv)) [0, 1, 4, 2, 4, 0, 4, 0] (by kernel_rfl) (by kernel_rfl) HS.out ?_
      have HM : Hid _ := HM.out.drew
      have HS : Hid (w2.drew.rangeAt w.heap.size 0 (x.map bv)) := HM.out.range 0 rfl
      (repeat (first | (refine Txt.tl_pure (v := ?_) (by rfl) ?_ ?_; rotate_left; (focus (intro _; go_simp; try with_reducible rfl)); simp only [Act.put, List.setIfInBounds_toArray, List.set_cons_zero, List.set_cons_succ]) | (refine Txt.tl_skip (by rfl) HS.out ?_; simp only [Act.put, List.setIfInBounds_toArray, List.set_cons_zero, List.set_cons_succ]) | (refine Txt.tl_rowN (by rfl) (by rfl) (by rfl) (HM.out.range 0 rfl) (by kernel_rfl) Rx.out ?_; simp only [Act.put, List.setIfInBounds_toArray, List.set_cons_zero, List.set_cons_succ]) | (refine Txt.tl_rowSN (by rfl) (by rfl) (by rfl) (fun w2 h => h) (by kernel_rfl) Rx.out ?_; simp only [Act.put, List.setIfInBounds_toArray, List.set_cons_zero, List.set_cons_succ])))
      refine Txt.tl_call Try.func23 (by kernel_rfl) (by kernel_rfl) (by rfl) (by rfl) (by rfl) (without_any _ a n c l (A1.out.calm HM.out.keep) (by omega) x Lx.out) ?_
      rintro e w9 ⟨v9, rfl, h9⟩
      obtain ⟨pa, pn, pc, e9, at9, pN, _⟩ := h9.1.any'
      subst e9
      have pA : Hid (At w9 pa pn _) := at9
      have HK : Hid _ := h9.2.1
      have HM : Hid _ := HM.out.calm HK.out
      have HS : Hid (w9.rangeAt w.heap.size 0 (x.map bv)) := HM.out.range 0 rfl
      have pN : Hid _ := pN
      clear h9 at9
      refine ⟨_, rfl, HS.out, ?_⟩
      simp only [Act.put, List.setIfInBounds_toArray, List.set_cons_zero, List.set_cons_succ]
      (repeat (first | (refine Txt.tl_pure (v := ?_) (by rfl) ?_ ?_; rotate_left; (focus (intro _; go_simp; try with_reducible rfl)); simp only [Act.put, List.setIfInBounds_toArray, List.set_cons_zero, List.set_cons_succ]) | (refine Txt.tl_skip (by rfl) HS.out ?_; simp only [Act.put, List.setIfInBounds_toArray, List.set_cons_zero, List.set_cons_succ]) | (refine Txt.tl_rowN (by rfl) (by rfl) (by rfl) (HM.out.range 0 rfl) (by kernel_rfl) Rx.out ?_; simp only [Act.put, List.setIfInBounds_toArray, List.set_cons_zero, List.set_cons_succ]) | (refine Txt.tl_rowSN (by rfl) (by rfl) (by rfl) (fun w2 h => h) (by kernel_rfl) Rx.out ?_; simp only [Act.put, List.setIfInBounds_toArray, List.set_cons_zero, List.set_cons_succ])))
      refine Txt.tl_call Try.func22 (by kernel_rfl) (by kernel_rfl) (by rfl) (by rfl) (by rfl) (with_any _ pa pn pc _ pA.out (le_tr pN.out HBL.out) x Lx.out) ?_
      rintro e w9 ⟨v9, rfl, h9⟩
      obtain ⟨qa, qn, qc, e9, at9, qN, _⟩ := h9.1.any'
      subst e9
      have qA : Hid (At w9 qa qn _) := at9
      have HK : Hid _ := h9.2.1
      have HM : Hid _ := HM.out.calm HK.out
      have HS : Hid (w9.rangeAt w.heap.size 0 (x.map bv)) := HM.out.range 0 rfl
      have qN : Hid _ := qN
      clear h9 at9
      refine ⟨_, rfl, HS.out, ?_⟩
      simp only [Act.put, List.setIfInBounds_toArray, List.set_cons_zero, List.set_cons_succ]
      (repeat (first | (refine Txt.tl_pure (v := ?_) (by rfl) ?_ ?_; rotate_left; (focus (intro _; go_simp; try with_reducible rfl)); simp only [Act.put, List.setIfInBounds_toArray, List.set_cons_zero, List.set_cons_succ]) | (refine Txt.tl_skip (by rfl) HS.out ?_; simp only [Act.put, List.setIfInBounds_toArray, List.set_cons_zero, List.set_cons_succ]) | (refine Txt.tl_rowN (by rfl) (by rfl) (by rfl) (HM.out.range 0 rfl) (by kernel_rfl) Rx.out ?_; simp only [Act.put, List.setIfInBounds_toArray, List.set_cons_zero, List.set_cons_succ]) | (refine Txt.tl_rowSN (by rfl) (by rfl) (by rfl) (fun w2 h => h) (by kernel_rfl) Rx.out ?_; simp only [Act.put, List.setIfInBounds_toArray, List.set_cons_zero, List.set_cons_succ])))
      refine Txt.tl_call Try.func15 (by kernel_rfl) (by kernel_rfl) (by rfl) (by rfl) (by rfl) (same_eq _ qa a3 qn n3 qc c3 _ _ qA.out (HM.out.get 1 rfl).atS HB.out) ?_
      rintro e w9 ⟨rfl, k9⟩
      have HM : Hid _ := HM.out.calm k9
      have HS : Hid (w9.rangeAt w.heap.size 0 (x.map bv)) := HM.out.range 0 rfl
      clear k9
      refine ⟨_, rfl, HS.out, ?_⟩
      simp only [Act.put, List.setIfInBounds_toArray, List.set_cons_zero, List.set_cons_succ]
      (repeat (first | (refine Txt.tl_pure (v := ?_) (by rfl) ?_ ?_; rotate_left; (focus (intro _; go_simp; try with_reducible rfl)); simp only [Act.put, List.setIfInBounds_toArray, List.set_cons_zero, List.set_cons_succ]) | (refine Txt.tl_skip (by rfl) HS.out ?_; simp only [Act.put, List.setIfInBounds_toArray, List.set_cons_zero, List.set_cons_succ]) | (refine Txt.tl_rowN (by rfl) (by rfl) (by rfl) (HM.out.range 0 rfl) (by kernel_rfl) Rx.out ?_; simp only [Act.put, List.setIfInBounds_toArray, List.set_cons_zero, List.set_cons_succ]) | (refine Txt.tl_rowSN (by rfl) (by rfl) (by rfl) (fun w2 h => h) (by kernel_rfl) Rx.out ?_; simp only [Act.put, List.setIfInBounds_toArray, List.set_cons_zero, List.set_cons_succ])))
      refine Txt.tl_nil ?_
      go_wp2_with fail
      refine (less_any _ a a2 n c n2 c2 l m (A1.out.calm HM.out.keep) (A2.out.calm HM.out.keep) (by omega) (by omega)).mono ?_
      rintro e w9 ⟨v9, rfl, h9⟩
      obtain ⟨pa, pn, pc, e9, at9, pN, _⟩ := h9.1.any'
      subst e9
      have pA : Hid (At w9 pa pn _) := at9
      have HK : Hid _ := h9.2.1
      have HM : Hid _ := HM.out.calm HK.out
      have pN : Hid _ := pN
      clear h9 at9
      go_wp2_with fail
      refine (both_any _ pa a2 pn pc n2 c2 _ m pA.out (A2.out.calm HM.out.keep) (le_ad pN.out HL1.out rfl g2)).mono ?_
      rintro e w9 ⟨v9, rfl, h9⟩
      obtain ⟨qa, qn, qc, e9, at9, qN, _⟩ := h9.1.any'
      subst e9
      have qA : Hid (At w9 qa qn _) := at9
      have HK : Hid _ := h9.2.1
      have HM : Hid _ := HM.out.calm HK.out
      have qN : Hid _ := qN
      clear h9 at9
      go_wp2_with fail
      refine (both_any _ a a2 n c n2 c2 l m (A1.out.calm HM.out.keep) (A2.out.calm HM.out.keep) (by omega)).mono ?_
      rintro e w9 ⟨v9, rfl, h9⟩
      obtain ⟨ra, rn, rc, e9, at9, rN, _⟩ := h9.1.any'
      subst e9
      have rA : Hid (At w9 ra rn _) := at9
      have HK : Hid _ := h9.2.1
      have HM : Hid _ := HM.out.calm HK.out
      have rN : Hid _ := rN
      clear h9 at9
      go_wp2_with fail
      refine (same_eq _ qa ra qn rn qc rc _ _ (qA.out.calm HK.out) rA.out HE.out).mono ?_
      rintro e w9 ⟨rfl, k9⟩
      have HM : Hid _ := HM.out.calm k9
      clear k9
      go_wp2_with fail
      refine (less_any _ a a2 n c n2 c2 l m (A1.out.calm HM.out.keep) (A2.out.calm HM.out.keep) (by omega) (by omega)).mono ?_
      rintro e w9 ⟨v9, rfl, h9⟩
      obtain ⟨pa, pn, pc, e9, at9, pN, _⟩ := h9.1.any'
      subst e9
      have pA : Hid (At w9 pa pn _) := at9
      have HK : Hid _ := h9.2.1
      have HM : Hid _ := HM.out.calm HK.out
      have pN : Hid _ := pN
      clear h9 at9
      go_wp2_with fail
      refine (less_any _ a2 a n2 c2 n c m l (A2.out.calm HM.out.keep) (A1.out.calm HM.out.keep) (by omega) (by omega)).mono ?_
      rintro e w9 ⟨v9, rfl, h9⟩
      obtain ⟨qa, qn, qc, e9, at9, qN, _⟩ := h9.1.any'
      subst e9
      have qA : Hid (At w9 qa qn _) := at9
      have HK : Hid _ := h9.2.1
      have HM : Hid _ := HM.out.calm HK.out
      have qN : Hid _ := qN
      clear h9 at9
      go_wp2_with fail
      refine (both_any _ pa qa pn pc qn qc _ _ (pA.out.calm HK.out) qA.out (le_ad pN.out HL1.out qN.out HL2.out)).mono ?_
      rintro e w9 ⟨v9, rfl, h9⟩
      obtain ⟨ra, rn, rc, e9, at9, rN, _⟩ := h9.1.any'
      subst e9
      have rA : Hid (At w9 ra rn _) := at9
      have HK : Hid _ := h9.2.1
      have HM : Hid _ := HM.out.calm HK.out
      have rN : Hid _ := rN
      clear h9 at9
      go_wp2_with fail
      have rL : Hid _ := rN
      refine (less_any _ a a2 n c n2 c2 l m (A1.out.calm HM.out.keep) (A2.out.calm HM.out.keep) (by omega) (by omega)).mono ?_
      rintro e w9 ⟨v9, rfl, h9⟩
      obtain ⟨sa, sn, sc, e9, at9, sN, _⟩ := h9.1.any'
      subst e9
      have sA : Hid (At w9 sa sn _) := at9
      have HK : Hid _ := h9.2.1
      have HM : Hid _ := HM.out.calm HK.out
      have sN : Hid _ := sN
      clear h9 at9
      go_wp2_with fail
      refine (less_any _ a2 a n2 c2 n c m l (A2.out.calm HM.out.keep) (A1.out.calm HM.out.keep) (by omega) (by omega)).mono ?_
      rintro e w9 ⟨v9, rfl, h9⟩
      obtain ⟨ta, tn, tc, e9, at9, tN, _⟩ := h9.1.any'
      subst e9
      have HM : Hid _ := HM.out.calm h9.2.1
      have hq : ((rn : Int) == (sn : Int) + (tn : Int)) = true := by
        have e1 := rL.out
        have e2 := sN.out
        have e3 := tN.out
        have e4 := HLen.out
        rw [beq_iff_eq]
        omega
      have hs1 : sn ≤ 60 := by rw [sN.out]; exact HL1.out
      have ht1 : tn ≤ 60 := by rw [tN.out]; exact HL2.out
      clear h9 at9
      go_wp2_with fail
      refine (awake_true _).mono ?_
      rintro e w9 ⟨rfl, k9⟩
      have HM : Hid _ := HM.out.calm k9
      clear k9
      go_wp2_with fail
      go_ret
      exact ⟨rfl, Keep.below HM.out.keep (Nat.le_refl _) (fun _ h => h.elim)⟩
    · have HIN : Hid (x ∉ l) := hin
      have HB : Hid (IdL.butL (IdL.setL (IdL.setL (l ++ [x]))) x = IdL.setL l) := (IdL.but_set (l ++ [x]) x).trans (IdL.take_away hin)
      have hd : decide (x ∈ l) = false := decide_eq_false hin
      clear hin
      go_enter Try.func6, Try.ntmps6
      go_wp2_with (first | (go_at_call 25; refine (much_no _ a a2 n c n2 c2 g1 g2).mono ?_; rintro e w' ⟨rfl, rfl⟩) | (go_at_call 13; refine (set_any _ a n c l (A1.out.calm HM.out.keep) (by omega)).mono ?_; rintro e w1 ⟨v, rfl, h1⟩; obtain ⟨a3, n3, c3, e3, at3, HN3, _⟩ := h1.1.any'; subst e3; have HM : Hid (M (fun _ => False) w w1 [ib w.heap.size x, ids (.slice a3 n3 c3) (IdL.setL l)]) := HM.out.add (x := ids (.slice a3 n3 c3) (IdL.setL l)) h1.2.1 h1.1 (fun k hk => ⟨h1.2.2 k hk, h1.1.lt hk⟩); clear h1 at3) | (refine St.wl_load tyIdP (by rfl) rfl rfl (HM.out.range 0 rfl) Rx.out ?_; simp only [Act.put, List.setIfInBounds_toArray, List.set_cons_zero, List.set_cons_succ]) | (go_at_call 26; refine (has_any _ a n c l (A1.out.calm HM.out.keep) (by omega) x Lx.out).mono ?_; rw [hd]; rintro e w2 ⟨rfl, k1⟩; have HM : Hid _ := HM.out.calm k1; clear k1))
      have HS : Hid (w2.rangeAt w.heap.size 0 (x.map bv)) := HM.out.range 0 rfl
      refine Txt.wp_region_text (fun w' => w'.rangeAt w.heap.size 0 (x.map bv)) [0, 1, 4, 2, 4, 0, 4, 0] (by kernel_rfl) (by kernel_rfl) HS.out ?_
      have HM : Hid _ := HM.out.drew
      have HS : Hid (w2.drew.rangeAt w.heap.size 0 (x.map bv)) := HM.out.range 0 rfl
      (repeat (first | (refine Txt.tl_pure (v := ?_) (by rfl) ?_ ?_; rotate_left; (focus (intro _; go_simp; try with_reducible rfl)); simp only [Act.put, List.setIfInBounds_toArray, List.set_cons_zero, List.set_cons_succ]) | (refine Txt.tl_skip (by rfl) HS.out ?_; simp only [Act.put, List.setIfInBounds_toArray, List.set_cons_zero, List.set_cons_succ]) | (refine Txt.tl_rowN (by rfl) (by rfl) (by rfl) (HM.out.range 0 rfl) (by kernel_rfl) Rx.out ?_; simp only [Act.put, List.setIfInBounds_toArray, List.set_cons_zero, List.set_cons_succ]) | (refine Txt.tl_rowSN (by rfl) (by rfl) (by rfl) (fun w2 h => h) (by kernel_rfl) Rx.out ?_; simp only [Act.put, List.setIfInBounds_toArray, List.set_cons_zero, List.set_cons_succ])))
      refine Txt.tl_call Try.func22 (by kernel_rfl) (by kernel_rfl) (by rfl) (by rfl) (by rfl) (with_any _ a n c l (A1.out.calm HM.out.keep) (by omega) x Lx.out) ?_
      rintro e w9 ⟨v9, rfl, h9⟩
      obtain ⟨pa, pn, pc, e9, at9, pN, _⟩ := h9.1.any'
      subst e9
      have pA : Hid (At w9 pa pn _) := at9
      have HK : Hid _ := h9.2.1
      have HM : Hid _ := HM.out.calm HK.out
      have HS : Hid (w9.rangeAt w.heap.size 0 (x.map bv)) := HM.out.range 0 rfl
      have pN : Hid _ := pN
      clear h9 at9
      refine ⟨_, rfl, HS.out, ?_⟩
      simp only [Act.put, List.setIfInBounds_toArray, List.set_cons_zero, List.set_cons_succ]
      (repeat (first | (refine Txt.tl_pure (v := ?_) (by rfl) ?_ ?_; rotate_left; (focus (intro _; go_simp; try with_reducible rfl)); simp only [Act.put, List.setIfInBounds_toArray, List.set_cons_zero, List.set_cons_succ]) | (refine Txt.tl_skip (by rfl) HS.out ?_; simp only [Act.put, List.setIfInBounds_toArray, List.set_cons_zero, List.set_cons_succ]) | (refine Txt.tl_rowN (by rfl) (by rfl) (by rfl) (HM.out.range 0 rfl) (by kernel_rfl) Rx.out ?_; simp only [Act.put, List.setIfInBounds_toArray, List.set_cons_zero, List.set_cons_succ]) | (refine Txt.tl_rowSN (by rfl) (by rfl) (by rfl) (fun w2 h => h) (by kernel_rfl) Rx.out ?_; simp only [Act.put, List.setIfInBounds_toArray, List.set_cons_zero, List.set_cons_succ])))
      refine Txt.tl_call Try.func23 (by kernel_rfl) (by kernel_rfl) (by rfl) (by rfl) (by rfl) (without_any _ pa pn pc _ pA.out (Nat.le_trans (le_tr pN.out HWL.out) (by omega)) x Lx.out) ?_
      rintro e w9 ⟨v9, rfl, h9⟩
      obtain ⟨qa, qn, qc, e9, at9, qN, _⟩ := h9.1.any'
      subst e9
      have qA : Hid (At w9 qa qn _) := at9
      have HK : Hid _ := h9.2.1
      have HM : Hid _ := HM.out.calm HK.out
      have HS : Hid (w9.rangeAt w.heap.size 0 (x.map bv)) := HM.out.range 0 rfl
      have qN : Hid _ := qN
      clear h9 at9
      refine ⟨_, rfl, HS.out, ?_⟩
      simp only [Act.put, List.setIfInBounds_toArray, List.set_cons_zero, List.set_cons_succ]
      (repeat (first | (refine Txt.tl_pure (v := ?_) (by rfl) ?_ ?_; rotate_left; (focus (intro _; go_simp; try with_reducible rfl)); simp only [Act.put, List.setIfInBounds_toArray, List.set_cons_zero, List.set_cons_succ]) | (refine Txt.tl_skip (by rfl) HS.out ?_; simp only [Act.put, List.setIfInBounds_toArray, List.set_cons_zero, List.set_cons_succ]) | (refine Txt.tl_rowN (by rfl) (by rfl) (by rfl) (HM.out.range 0 rfl) (by kernel_rfl) Rx.out ?_; simp only [Act.put, List.setIfInBounds_toArray, List.set_cons_zero, List.set_cons_succ]) | (refine Txt.tl_rowSN (by rfl) (by rfl) (by rfl) (fun w2 h => h) (by kernel_rfl) Rx.out ?_; simp only [Act.put, List.setIfInBounds_toArray, List.set_cons_zero, List.set_cons_succ])))
      refine Txt.tl_call Try.func15 (by kernel_rfl) (by kernel_rfl) (by rfl) (by rfl) (by rfl) (same_eq _ qa a3 qn n3 qc c3 _ _ qA.out (HM.out.get 1 rfl).atS HB.out) ?_
      rintro e w9 ⟨rfl, k9⟩
      have HM : Hid _ := HM.out.calm k9
      have HS : Hid (w9.rangeAt w.heap.size 0 (x.map bv)) := HM.out.range 0 rfl
      clear k9
      refine ⟨_, rfl, HS.out, ?_⟩
      simp only [Act.put, List.setIfInBounds_toArray, List.set_cons_zero, List.set_cons_succ]
      (repeat (first | (refine Txt.tl_pure (v := ?_) (by rfl) ?_ ?_; rotate_left; (focus (intro _; go_simp; try with_reducible rfl)); simp only [Act.put, List.setIfInBounds_toArray, List.set_cons_zero, List.set_cons_succ]) | (refine Txt.tl_skip (by rfl) HS.out ?_; simp only [Act.put, List.setIfInBounds_toArray, List.set_cons_zero, List.set_cons_succ]) | (refine Txt.tl_rowN (by rfl) (by rfl) (by rfl) (HM.out.range 0 rfl) (by kernel_rfl) Rx.out ?_; simp only [Act.put, List.setIfInBounds_toArray, List.set_cons_zero, List.set_cons_succ]) | (refine Txt.tl_rowSN (by rfl) (by rfl) (by rfl) (fun w2 h => h) (by kernel_rfl) Rx.out ?_; simp only [Act.put, List.setIfInBounds_toArray, List.set_cons_zero, List.set_cons_succ])))
      refine Txt.tl_nil ?_
      go_wp2_with fail
      refine (less_any _ a a2 n c n2 c2 l m (A1.out.calm HM.out.keep) (A2.out.calm HM.out.keep) (by omega) (by omega)).mono ?_
      rintro e w9 ⟨v9, rfl, h9⟩
      obtain ⟨pa, pn, pc, e9, at9, pN, _⟩ := h9.1.any'
      subst e9
      have pA : Hid (At w9 pa pn _) := at9
      have HK : Hid _ := h9.2.1
      have HM : Hid _ := HM.out.calm HK.out
      have pN : Hid _ := pN
      clear h9 at9
      go_wp2_with fail
      refine (both_any _ pa a2 pn pc n2 c2 _ m pA.out (A2.out.calm HM.out.keep) (le_ad pN.out HL1.out rfl g2)).mono ?_
      rintro e w9 ⟨v9, rfl, h9⟩
      obtain ⟨qa, qn, qc, e9, at9, qN, _⟩ := h9.1.any'
      subst e9
      have qA : Hid (At w9 qa qn _) := at9
      have HK : Hid _ := h9.2.1
      have HM : Hid _ := HM.out.calm HK.out
      have qN : Hid _ := qN
      clear h9 at9
      go_wp2_with fail
      refine (both_any _ a a2 n c n2 c2 l m (A1.out.calm HM.out.keep) (A2.out.calm HM.out.keep) (by omega)).mono ?_
      rintro e w9 ⟨v9, rfl, h9⟩
      obtain ⟨ra, rn, rc, e9, at9, rN, _⟩ := h9.1.any'
      subst e9
      have rA : Hid (At w9 ra rn _) := at9
      have HK : Hid _ := h9.2.1
      have HM : Hid _ := HM.out.calm HK.out
      have rN : Hid _ := rN
      clear h9 at9
      go_wp2_with fail
      refine (same_eq _ qa ra qn rn qc rc _ _ (qA.out.calm HK.out) rA.out HE.out).mono ?_
      rintro e w9 ⟨rfl, k9⟩
      have HM : Hid _ := HM.out.calm k9
      clear k9
      go_wp2_with fail
      refine (less_any _ a a2 n c n2 c2 l m (A1.out.calm HM.out.keep) (A2.out.calm HM.out.keep) (by omega) (by omega)).mono ?_
      rintro e w9 ⟨v9, rfl, h9⟩
      obtain ⟨pa, pn, pc, e9, at9, pN, _⟩ := h9.1.any'
      subst e9
      have pA : Hid (At w9 pa pn _) := at9
      have HK : Hid _ := h9.2.1
      have HM : Hid _ := HM.out.calm HK.out
      have pN : Hid _ := pN
      clear h9 at9
      go_wp2_with fail
      refine (less_any _ a2 a n2 c2 n c m l (A2.out.calm HM.out.keep) (A1.out.calm HM.out.keep) (by omega) (by omega)).mono ?_
      rintro e w9 ⟨v9, rfl, h9⟩
      obtain ⟨qa, qn, qc, e9, at9, qN, _⟩ := h9.1.any'
      subst e9
      have qA : Hid (At w9 qa qn _) := at9
      have HK : Hid _ := h9.2.1
      have HM : Hid _ := HM.out.calm HK.out
      have qN : Hid _ := qN
      clear h9 at9
      go_wp2_with fail
      refine (both_any _ pa qa pn pc qn qc _ _ (pA.out.calm HK.out) qA.out (le_ad pN.out HL1.out qN.out HL2.out)).mono ?_
      rintro e w9 ⟨v9, rfl, h9⟩
      obtain ⟨ra, rn, rc, e9, at9, rN, _⟩ := h9.1.any'
      subst e9
      have rA : Hid (At w9 ra rn _) := at9
      have HK : Hid _ := h9.2.1
      have HM : Hid _ := HM.out.calm HK.out
      have rN : Hid _ := rN
      clear h9 at9
      go_wp2_with fail
      have rL : Hid _ := rN
      refine (less_any _ a a2 n c n2 c2 l m (A1.out.calm HM.out.keep) (A2.out.calm HM.out.keep) (by omega) (by omega)).mono ?_
      rintro e w9 ⟨v9, rfl, h9⟩
      obtain ⟨sa, sn, sc, e9, at9, sN, _⟩ := h9.1.any'
      subst e9
      have sA : Hid (At w9 sa sn _) := at9
      have HK : Hid _ := h9.2.1
      have HM : Hid _ := HM.out.calm HK.out
      have sN : Hid _ := sN
      clear h9 at9
      go_wp2_with fail
      refine (less_any _ a2 a n2 c2 n c m l (A2.out.calm HM.out.keep) (A1.out.calm HM.out.keep) (by omega) (by omega)).mono ?_
      rintro e w9 ⟨v9, rfl, h9⟩
      obtain ⟨ta, tn, tc, e9, at9, tN, _⟩ := h9.1.any'
      subst e9
      have HM : Hid _ := HM.out.calm h9.2.1
      have hq : ((rn : Int) == (sn : Int) + (tn : Int)) = true := by
        have e1 := rL.out
        have e2 := sN.out
        have e3 := tN.out
        have e4 := HLen.out
        rw [beq_iff_eq]
        omega
      have hs1 : sn ≤ 60 := by rw [sN.out]; exact HL1.out
      have ht1 : tn ≤ 60 := by rw [tN.out]; exact HL2.out
      clear h9 at9
      go_wp2_with fail
      refine (awake_true _).mono ?_
      rintro e w9 ⟨rfl, k9⟩
      have HM : Hid _ := HM.out.calm k9
      clear k9
      go_wp2_with fail
      go_ret
      exact ⟨rfl, Keep.below HM.out.keep (Nat.le_refl _) (fun _ h => h.elim)⟩
  · go_enter Try.func6, Try.ntmps6
    go_wp2_with (first | (go_at_call 25; refine (much_yes _ a a2 n c n2 c2 A1.out.most A2.out.most hgo).mono ?_; rintro e w' ⟨rfl, rfl⟩) | (go_at_call 12; refine (awake_true _).mono ?_; rintro e w5 ⟨rfl, k1⟩; have HM : Hid _ := HM.out.calm k1; clear k1))
    go_ret
    exact ⟨rfl, Keep.below HM.out.keep (Nat.le_refl _) (fun _ h => h.elim)⟩
set_option maxRecDepth 100000 in
theorem own : ownKnob Try.prog.godebug = none := by kernel_rfl
set_option maxRecDepth 100000 in
theorem laidOut : laidOutB Try.prog = true := by kernel_rfl
set_option maxRecDepth 100000 in
theorem contract (H : Type) (enc : TypeId × Value → H) (W : World) (base : Nat) (args : Array Value) (ds gs : List (DataW H)) (before : List MemPlace)
    (hval : ∀ (j : Nat) t v, Try.f6.params[j]? = some t → args[j]? = some v → Value.okWide Try.prog W .any base t v)
    (hW : DataW.Whole enc Try.prog Try.f6.params.toList Rows.identBackSpec.vars false W args.toList ds gs before) :
    Calls Try.prog 6 args W fun e W' => ∃ v, e = .returned v ∧ Rows.identBackSpec.post enc Try.prog Try.f6 false true false false W args v W' := by
  have hW' := hW
  obtain ⟨p, q, hA0, hV, rfl, hfz, hnd⟩ := hW
  have hA : DataW.TrodAll enc Try.prog W 0 (fun _ => true) true Try.f6.params.toList args.toList ds p := hA0
  rw [Try.params6] at hA hval
  obtain ⟨rfl, rfl⟩ := trodVars_none hV
  obtain ⟨v0, vs0, d0, ds0, p0, q0, hargs, rfl, rfl, h0, r0⟩ := trodAll_cons hA
  obtain ⟨v1, vs1, d1, ds1, p1, q1, rfl, rfl, rfl, h1, r1⟩ := trodAll_cons r0
  obtain ⟨v2, vs2, d2, ds2, p2, q2, rfl, rfl, rfl, h2, r2⟩ := trodAll_cons r1
  obtain ⟨rfl, rfl, rfl⟩ := trodAll_nil r2
  obtain rfl : args = #[v0, v1, v2] := by cases args; simp_all
  obtain ⟨a, n, c, l, rfl, f0⟩ := Opn.open_idl (hval 0 _ v0 rfl rfl) h0
  obtain ⟨a2, n2, c2, m, rfl, f1⟩ := Opn.open_idl (hval 1 _ v1 rfl rfl) h1
  obtain ⟨x, rfl, lx⟩ := Opn.open_id (hval 2 _ v2 rfl rfl) h2
  refine (walk W a a2 n c n2 c2 l m x f0 f1 lx).mono fun e W' ⟨he, bel⟩ => ?_
  subst he
  exact ⟨_, rfl, Opn.law_post laidOut (by kernel_rfl) rfl Try.underlying4 rfl rfl hW' bel⟩
set_option maxRecDepth 100000 in
theorem lifted (os : Os) (started : os.Started) (H : Type) (enc : TypeId × Value → H) :
    ReturnsInHanded {} Try.checked os 6 .any (Rows.identBackSpec.pre6 enc Try.prog Try.f6 Rows.identBackRow.domain false) (Rows.identBackSpec.post enc Try.prog Try.f6 false true false false) := by
  refine returnsInHanded_of_change (C := Try.checked) own started (by kernel_rfl) Try.func6
    (ChangeSpec.witness6 (enc := enc) (C := Try.checked) false ⟨#[], #[.slice none 0 0, .slice none 0 0, idv (List.replicate 32 0)], []⟩ 8 (by kernel_rfl) (by kernel_rfl) (by kernel_rfl) (by kernel_rfl)) ?_
  intro W base args ds gs before hval0 hW hcnd _
  exact contract H enc W base args ds gs before hval0 hW
theorem over : Rows.identBackRow.holds Try.pinned (OpenSpec.ofChange Rows.identBackSpec) :=
  OpenClaim.holds_of_wide 6 Try.f6 rfl rfl rfl rfl rfl rfl rfl ⟨rfl, rfl, rfl, rfl, rfl⟩ rfl rfl rfl rfl rfl (by kernel_rfl) Try.func6 (by kernel_rfl)
    (of_decide_eq_true (by kernel_rfl)) (by unfold Func.isWrapper; first | (rw [if_pos (by decide +kernel)]; kernel_rfl) | (rw [if_neg (by decide +kernel)]; exact ⟨rfl, rfl⟩))
    (fun os started H enc _ => lifted os started H enc)
theorem proved : Rows.IdentBackSaid := over
end IdentBack
end Go.Proofs.Ytkoolpalhahigaa
