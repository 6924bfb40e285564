/-
  'petrellaw06.IdentSets': sets of any lists, and what is in them, are as the document says. For every input.
-/
import Derived.Test.YtkoolpalhahigaaIdTexts
set_option linter.unusedVariables false
set_option linter.unusedSimpArgs false
namespace Go.Proofs.Ytkoolpalhahigaa
open Go.RowKit Go.ChangeShapes Go.WideShapes Go.ChangeAt
namespace IdentSets
open Oct Ids Mem
abbrev ib (b : Nat) (x : List UInt8) : It := blk b (.cells (x.map bv).toArray 26)
theorem is_dec (w : World) (a : Option Addr) (n c : Nat) (els : List (List UInt8)) (h : At w a n els) (hm : n ≤ 1000000) :
    Calls Try.prog 16 #[.slice a n c] w fun e w' => e = .returned (.bool (decide (els = IdL.setL els))) ∧ Keep (fun _ => False) w w' :=
  (is_any w a n c els h hm).mono fun e w' ⟨⟨r, he, hr⟩, k⟩ => ⟨by
    rw [he]
    congr 2
    rw [Bool.eq_iff_iff, hr, decide_eq_true_eq, ← IdL.srt_iff]
    exact ⟨Eq.symm, Eq.symm⟩, k⟩
theorem same_eq (w : World) (a1 a2 : Option Addr) (n1 n2 c1 c2 : Nat) (l l2 : List (List UInt8)) (h1 : At w a1 n1 l) (h2 : At w a2 n2 l2) (e : l = l2) :
    Calls Try.prog 15 #[.slice a1 n1 c1, .slice a2 n2 c2] w fun e w' => e = .returned (.bool true) ∧ Keep (fun _ => False) w w' := by
  have := same_any w a1 a2 n1 n2 c1 c2 l l2 h1 h2
  rwa [decide_eq_true e] at this
theorem xwith_of (w : World) (a : Option Addr) (n c : Nat) (els : List (List UInt8)) (h : Own w (.slice a n c) els) (hm : n ≤ 100000) (x : List UInt8) (hx : x.length = 32) :
    Calls Try.prog 31 #[.slice a n c, idv x] w fun e w' => ∃ v', e = .returned v' ∧ Own w' v' (IdL.withL els x) ∧ Keep (fun _ => False) w w' ∧ True :=
  (xwith_own w (.slice a n c) els h (by have := h.atS.len; omega) x hx).mono fun e w' ⟨v', he, h1, h2, _⟩ => ⟨v', he, h1, h2, trivial⟩
set_option maxRecDepth 100000 in
theorem much_no (w : World) (a a2 : Option Addr) (n c n2 c2 : Nat) (h : n ≤ 60) (h2 : n2 ≤ 60) : Calls Try.prog 25 #[.slice a n c, .slice a2 n2 c2] w fun e w' => e = .returned (.bool false) ∧ w = w' := by
  have d1 : decide ((60 : Int) < (n : Int)) = false := decide_eq_false (by omega)
  have d2 : decide ((60 : Int) < (n2 : Int)) = false := decide_eq_false (by omega)
  go_enter Try.func25, Try.ntmps25
  go_wp2
  go_ret
  exact ⟨rfl, rfl⟩
set_option maxRecDepth 100000 in
theorem much_yes (w : World) (a a2 : Option Addr) (n c n2 c2 : Nat) (h : n ≤ maxLen) (h2 : n2 ≤ maxLen) (hg : ¬ (n ≤ 60 ∧ n2 ≤ 60)) : Calls Try.prog 25 #[.slice a n c, .slice a2 n2 c2] w fun e w' => e = .returned (.bool true) ∧ w = w' := by
  unfold maxLen at h h2
  by_cases h1 : 60 < n
  · have d1 : decide ((60 : Int) < (n : Int)) = true := decide_eq_true (by omega)
    clear hg
    go_enter Try.func25, Try.ntmps25
    go_wp2
    go_ret
    exact ⟨rfl, rfl⟩
  · have d1 : decide ((60 : Int) < (n : Int)) = false := decide_eq_false (by omega)
    have d2 : decide ((60 : Int) < (n2 : Int)) = true := decide_eq_true (by omega)
    clear hg h1
    go_enter Try.func25, Try.ntmps25
    go_wp2
    go_ret
    exact ⟨rfl, rfl⟩
set_option maxRecDepth 100000 in
set_option maxHeartbeats 8000000 in
theorem walk (w : World) (a a2 : Option Addr) (n c n2 c2 : Nat) (l m : List (List UInt8)) (x : List UInt8) (h1 : At w a n l) (h2 : At w a2 n2 m) (hx : x.length = 32) :
    Calls Try.prog 7 #[.slice a n c, .slice a2 n2 c2, idv x] w fun e w' => e = .returned (.bool true) ∧ Below w.heap.size w w' := by
  have hn := h1.most
  have hn2 := h2.most
  unfold maxLen at hn hn2
  have A1 : Hid (At w a n l) := h1
  have A2 : Hid (At w a2 n2 m) := h2
  have Lx : Hid (x.length = 32) := hx
  have Rx : Hid ((x.map bv).length = 32) := by show _ = _; rw [List.length_map, hx]
  have HM : Hid (M (fun _ => False) w (w.alloc (.cells (x.map bv).toArray 26)) [ib w.heap.size x]) := (M.start _ w).alloc _ rfl
  have HE : Hid (IdL.setL (l ++ [x]) = IdL.withL (IdL.setL l) x) := IdL.setL_snoc l x
  have HZ : Hid ((IdL.setL l).length ≤ n) := by show _ ≤ _; have := IdL.setL_len l; rw [h1.len] at this; exact this
  clear h1 h2 hx
  by_cases hgo : n ≤ 60 ∧ n2 ≤ 60
  · obtain ⟨g1, g2⟩ := hgo
    go_enter Try.func7, Try.ntmps7
    go_wp2_with (first | (go_at_call 25; refine (much_no _ a a2 n c n2 c2 g1 g2).mono ?_; rintro e w' ⟨rfl, rfl⟩) | (go_at_call 28; refine (xset_any _ a n c l (A1.out.calm HM.out.keep) (by omega)).mono ?_; rintro e w1 ⟨v, rfl, h1⟩; obtain ⟨a3, n3, c3, e3, at3, HN3, _⟩ := h1.1.any'; subst e3; have HM : Hid (M (fun _ => False) w w1 [ib w.heap.size x, ids (.slice a3 n3 c3) (IdL.setL l)]) := HM.out.add (x := ids (.slice a3 n3 c3) (IdL.setL l)) h1.2.1 h1.1 (fun k hk => ⟨h1.2.2 k hk, h1.1.lt hk⟩); clear h1 at3))
    have N3 : Hid _ := HN3
    have hn3 : n3 ≤ 100000 := by have := HZ.out; have := N3.out; omega
    have HS : Hid (w1.rangeAt w.heap.size 0 (x.map bv)) := HM.out.range 0 rfl
    refine Txt.wp_region_text (fun w' => w'.rangeAt w.heap.size 0 (x.map bv)) [0, 4, 0, 4, 0, 0, 0, 4, 0, 4, 0, 0, 0, 0, 1, 4, 0, 2, 4, 0, 0] (by kernel_rfl) (by kernel_rfl) HS.out ?_
    have HM : Hid _ := HM.out.drew
    have HS : Hid (w1.drew.rangeAt w.heap.size 0 (x.map bv)) := HM.out.range 0 rfl
    (repeat (first | (refine Txt.tl_pure (v := ?_) (by rfl) ?_ ?_; rotate_left; (focus (intro _; go_simp; try with_reducible rfl)); simp only [Act.put, List.setIfInBounds_toArray, List.set_cons_zero, List.set_cons_succ]) | (refine Txt.tl_skip (by rfl) HS.out ?_; simp only [Act.put, List.setIfInBounds_toArray, List.set_cons_zero, List.set_cons_succ]) | (refine Txt.tl_rowN (by rfl) (by rfl) (by rfl) (HM.out.range 0 rfl) (by kernel_rfl) Rx.out ?_; simp only [Act.put, List.setIfInBounds_toArray, List.set_cons_zero, List.set_cons_succ]) | (refine Txt.tl_rowSN (by rfl) (by rfl) (by rfl) (fun w2 h => h) (by kernel_rfl) Rx.out ?_; simp only [Act.put, List.setIfInBounds_toArray, List.set_cons_zero, List.set_cons_succ])))
    refine Txt.tl_call Try.func13 (by kernel_rfl) (by kernel_rfl) (by rfl) (by rfl) (by rfl) (set_any _ a n c l (A1.out.calm HM.out.keep) (by omega)) ?_
    rintro e w9 ⟨v9, rfl, h9⟩
    obtain ⟨pa, pn, pc, e9, at9, pN, _⟩ := h9.1.any'
    subst e9
    have pA : Hid (At w9 pa pn _) := at9
    have HK : Hid _ := h9.2.1
    have HM : Hid _ := HM.out.calm HK.out
    have HS : Hid (w9.rangeAt w.heap.size 0 (x.map bv)) := HM.out.range 0 rfl
    have pN : Hid _ := pN
    clear h9 at9
    refine ⟨_, rfl, HS.out, ?_⟩
    simp only [Act.put, List.setIfInBounds_toArray, List.set_cons_zero, List.set_cons_succ]
    (repeat (first | (refine Txt.tl_pure (v := ?_) (by rfl) ?_ ?_; rotate_left; (focus (intro _; go_simp; try with_reducible rfl)); simp only [Act.put, List.setIfInBounds_toArray, List.set_cons_zero, List.set_cons_succ]) | (refine Txt.tl_skip (by rfl) HS.out ?_; simp only [Act.put, List.setIfInBounds_toArray, List.set_cons_zero, List.set_cons_succ]) | (refine Txt.tl_rowN (by rfl) (by rfl) (by rfl) (HM.out.range 0 rfl) (by kernel_rfl) Rx.out ?_; simp only [Act.put, List.setIfInBounds_toArray, List.set_cons_zero, List.set_cons_succ]) | (refine Txt.tl_rowSN (by rfl) (by rfl) (by rfl) (fun w2 h => h) (by kernel_rfl) Rx.out ?_; simp only [Act.put, List.setIfInBounds_toArray, List.set_cons_zero, List.set_cons_succ])))
    refine Txt.tl_call Try.func15 (by kernel_rfl) (by kernel_rfl) (by rfl) (by rfl) (by rfl) (same_eq _ pa a3 pn n3 pc c3 _ _ pA.out (HM.out.get 1 rfl).atS rfl) ?_
    rintro e w9 ⟨rfl, k9⟩
    have HM : Hid _ := HM.out.calm k9
    have HS : Hid (w9.rangeAt w.heap.size 0 (x.map bv)) := HM.out.range 0 rfl
    clear k9
    refine ⟨_, rfl, HS.out, ?_⟩
    simp only [Act.put, List.setIfInBounds_toArray, List.set_cons_zero, List.set_cons_succ]
    (repeat (first | (refine Txt.tl_pure (v := ?_) (by rfl) ?_ ?_; rotate_left; (focus (intro _; go_simp; try with_reducible rfl)); simp only [Act.put, List.setIfInBounds_toArray, List.set_cons_zero, List.set_cons_succ]) | (refine Txt.tl_skip (by rfl) HS.out ?_; simp only [Act.put, List.setIfInBounds_toArray, List.set_cons_zero, List.set_cons_succ]) | (refine Txt.tl_rowN (by rfl) (by rfl) (by rfl) (HM.out.range 0 rfl) (by kernel_rfl) Rx.out ?_; simp only [Act.put, List.setIfInBounds_toArray, List.set_cons_zero, List.set_cons_succ]) | (refine Txt.tl_rowSN (by rfl) (by rfl) (by rfl) (fun w2 h => h) (by kernel_rfl) Rx.out ?_; simp only [Act.put, List.setIfInBounds_toArray, List.set_cons_zero, List.set_cons_succ])))
    refine Txt.tl_call Try.func16 (by kernel_rfl) (by kernel_rfl) (by rfl) (by rfl) (by rfl) (is_dec _ a n c l (A1.out.calm HM.out.keep) (by omega)) ?_
    rintro e w9 ⟨rfl, k9⟩
    have HM : Hid _ := HM.out.calm k9
    have HS : Hid (w9.rangeAt w.heap.size 0 (x.map bv)) := HM.out.range 0 rfl
    clear k9
    refine ⟨_, rfl, HS.out, ?_⟩
    simp only [Act.put, List.setIfInBounds_toArray, List.set_cons_zero, List.set_cons_succ]
    (repeat (first | (refine Txt.tl_pure (v := ?_) (by rfl) ?_ ?_; rotate_left; (focus (intro _; go_simp; try with_reducible rfl)); simp only [Act.put, List.setIfInBounds_toArray, List.set_cons_zero, List.set_cons_succ]) | (refine Txt.tl_skip (by rfl) HS.out ?_; simp only [Act.put, List.setIfInBounds_toArray, List.set_cons_zero, List.set_cons_succ]) | (refine Txt.tl_rowN (by rfl) (by rfl) (by rfl) (HM.out.range 0 rfl) (by kernel_rfl) Rx.out ?_; simp only [Act.put, List.setIfInBounds_toArray, List.set_cons_zero, List.set_cons_succ]) | (refine Txt.tl_rowSN (by rfl) (by rfl) (by rfl) (fun w2 h => h) (by kernel_rfl) Rx.out ?_; simp only [Act.put, List.setIfInBounds_toArray, List.set_cons_zero, List.set_cons_succ])))
    refine Txt.tl_call Try.func29 (by kernel_rfl) (by kernel_rfl) (by rfl) (by rfl) (by rfl) (xis_any _ a n c l (A1.out.calm HM.out.keep) (by omega)) ?_
    rintro e w9 ⟨rfl, k9⟩
    have HM : Hid _ := HM.out.calm k9
    have HS : Hid (w9.rangeAt w.heap.size 0 (x.map bv)) := HM.out.range 0 rfl
    clear k9
    refine ⟨_, rfl, HS.out, ?_⟩
    simp only [Act.put, List.setIfInBounds_toArray, List.set_cons_zero, List.set_cons_succ]
    (repeat (first | (refine Txt.tl_pure (v := ?_) (by rfl) ?_ ?_; rotate_left; (focus (intro _; go_simp; try with_reducible rfl)); simp only [Act.put, List.setIfInBounds_toArray, List.set_cons_zero, List.set_cons_succ]) | (refine Txt.tl_skip (by rfl) HS.out ?_; simp only [Act.put, List.setIfInBounds_toArray, List.set_cons_zero, List.set_cons_succ]) | (refine Txt.tl_rowN (by rfl) (by rfl) (by rfl) (HM.out.range 0 rfl) (by kernel_rfl) Rx.out ?_; simp only [Act.put, List.setIfInBounds_toArray, List.set_cons_zero, List.set_cons_succ]) | (refine Txt.tl_rowSN (by rfl) (by rfl) (by rfl) (fun w2 h => h) (by kernel_rfl) Rx.out ?_; simp only [Act.put, List.setIfInBounds_toArray, List.set_cons_zero, List.set_cons_succ])))
    refine Txt.tl_call Try.func26 (by kernel_rfl) (by kernel_rfl) (by rfl) (by rfl) (by rfl) (has_any _ a n c l (A1.out.calm HM.out.keep) (by omega) x Lx.out) ?_
    rintro e w9 ⟨rfl, k9⟩
    have HM : Hid _ := HM.out.calm k9
    have HS : Hid (w9.rangeAt w.heap.size 0 (x.map bv)) := HM.out.range 0 rfl
    clear k9
    refine ⟨_, rfl, HS.out, ?_⟩
    simp only [Act.put, List.setIfInBounds_toArray, List.set_cons_zero, List.set_cons_succ]
    (repeat (first | (refine Txt.tl_pure (v := ?_) (by rfl) ?_ ?_; rotate_left; (focus (intro _; go_simp; try with_reducible rfl)); simp only [Act.put, List.setIfInBounds_toArray, List.set_cons_zero, List.set_cons_succ]) | (refine Txt.tl_skip (by rfl) HS.out ?_; simp only [Act.put, List.setIfInBounds_toArray, List.set_cons_zero, List.set_cons_succ]) | (refine Txt.tl_rowN (by rfl) (by rfl) (by rfl) (HM.out.range 0 rfl) (by kernel_rfl) Rx.out ?_; simp only [Act.put, List.setIfInBounds_toArray, List.set_cons_zero, List.set_cons_succ]) | (refine Txt.tl_rowSN (by rfl) (by rfl) (by rfl) (fun w2 h => h) (by kernel_rfl) Rx.out ?_; simp only [Act.put, List.setIfInBounds_toArray, List.set_cons_zero, List.set_cons_succ])))
    refine Txt.tl_call Try.func30 (by kernel_rfl) (by kernel_rfl) (by rfl) (by rfl) (by rfl) (xhas_any _ a n c l (A1.out.calm HM.out.keep) (by omega) x Lx.out) ?_
    rintro e w9 ⟨rfl, k9⟩
    have HM : Hid _ := HM.out.calm k9
    have HS : Hid (w9.rangeAt w.heap.size 0 (x.map bv)) := HM.out.range 0 rfl
    clear k9
    refine ⟨_, rfl, HS.out, ?_⟩
    simp only [Act.put, List.setIfInBounds_toArray, List.set_cons_zero, List.set_cons_succ]
    (repeat (first | (refine Txt.tl_pure (v := ?_) (by rfl) ?_ ?_; rotate_left; (focus (intro _; go_simp; try with_reducible rfl)); simp only [Act.put, List.setIfInBounds_toArray, List.set_cons_zero, List.set_cons_succ]) | (refine Txt.tl_skip (by rfl) HS.out ?_; simp only [Act.put, List.setIfInBounds_toArray, List.set_cons_zero, List.set_cons_succ]) | (refine Txt.tl_rowN (by rfl) (by rfl) (by rfl) (HM.out.range 0 rfl) (by kernel_rfl) Rx.out ?_; simp only [Act.put, List.setIfInBounds_toArray, List.set_cons_zero, List.set_cons_succ]) | (refine Txt.tl_rowSN (by rfl) (by rfl) (by rfl) (fun w2 h => h) (by kernel_rfl) Rx.out ?_; simp only [Act.put, List.setIfInBounds_toArray, List.set_cons_zero, List.set_cons_succ])))
    refine Txt.tl_nil ?_
    go_wp2
    refine Txt.wp_region_text (fun w' => w'.rangeAt w.heap.size 0 (x.map bv)) [0, 1, 4, 0, 2, 4, 4, 0, 0, 1, 4, 0, 2, 4, 4, 0, 0, 0, 0, 4, 0, 0, 4, 4, 0, 0, 0, 0, 4, 0, 0, 4, 4, 0, 0, 4, 0, 0] (by kernel_rfl) (by kernel_rfl) HS.out ?_
    have HM : Hid _ := HM.out.drew
    have HS : Hid (w9.drew.rangeAt w.heap.size 0 (x.map bv)) := HM.out.range 0 rfl
    (repeat (first | (refine Txt.tl_pure (v := ?_) (by rfl) ?_ ?_; rotate_left; (focus (intro _; go_simp; try with_reducible rfl)); simp only [Act.put, List.setIfInBounds_toArray, List.set_cons_zero, List.set_cons_succ]) | (refine Txt.tl_skip (by rfl) HS.out ?_; simp only [Act.put, List.setIfInBounds_toArray, List.set_cons_zero, List.set_cons_succ]) | (refine Txt.tl_rowN (by rfl) (by rfl) (by rfl) (HM.out.range 0 rfl) (by kernel_rfl) Rx.out ?_; simp only [Act.put, List.setIfInBounds_toArray, List.set_cons_zero, List.set_cons_succ]) | (refine Txt.tl_rowSN (by rfl) (by rfl) (by rfl) (fun w2 h => h) (by kernel_rfl) Rx.out ?_; simp only [Act.put, List.setIfInBounds_toArray, List.set_cons_zero, List.set_cons_succ])))
    refine Txt.tl_call Try.func22 (by kernel_rfl) (by kernel_rfl) (by rfl) (by rfl) (by rfl) (with_any _ a n c l (A1.out.calm HM.out.keep) (by omega) x Lx.out) ?_
    rintro e w9 ⟨v9, rfl, h9⟩
    obtain ⟨pa, pn, pc, e9, at9, pN, _⟩ := h9.1.any'
    subst e9
    have pA : Hid (At w9 pa pn _) := at9
    have HK : Hid _ := h9.2.1
    have HM : Hid _ := HM.out.calm HK.out
    have HS : Hid (w9.rangeAt w.heap.size 0 (x.map bv)) := HM.out.range 0 rfl
    have pN : Hid _ := pN
    clear h9 at9
    refine ⟨_, rfl, HS.out, ?_⟩
    simp only [Act.put, List.setIfInBounds_toArray, List.set_cons_zero, List.set_cons_succ]
    (repeat (first | (refine Txt.tl_pure (v := ?_) (by rfl) ?_ ?_; rotate_left; (focus (intro _; go_simp; try with_reducible rfl)); simp only [Act.put, List.setIfInBounds_toArray, List.set_cons_zero, List.set_cons_succ]) | (refine Txt.tl_skip (by rfl) HS.out ?_; simp only [Act.put, List.setIfInBounds_toArray, List.set_cons_zero, List.set_cons_succ]) | (refine Txt.tl_rowN (by rfl) (by rfl) (by rfl) (HM.out.range 0 rfl) (by kernel_rfl) Rx.out ?_; simp only [Act.put, List.setIfInBounds_toArray, List.set_cons_zero, List.set_cons_succ]) | (refine Txt.tl_rowSN (by rfl) (by rfl) (by rfl) (fun w2 h => h) (by kernel_rfl) Rx.out ?_; simp only [Act.put, List.setIfInBounds_toArray, List.set_cons_zero, List.set_cons_succ])))
    refine Txt.tl_call Try.func31 (by kernel_rfl) (by kernel_rfl) (by rfl) (by rfl) (by rfl) (xwith_of _ a3 n3 c3 _ (HM.out.get 1 rfl) hn3 x Lx.out) ?_
    rintro e w9 ⟨v9, rfl, h9⟩
    obtain ⟨qa, qn, qc, e9, at9, qN, _⟩ := h9.1.any'
    subst e9
    have qA : Hid (At w9 qa qn _) := at9
    have HK : Hid _ := h9.2.1
    have HM : Hid _ := HM.out.calm HK.out
    have HS : Hid (w9.rangeAt w.heap.size 0 (x.map bv)) := HM.out.range 0 rfl
    have qN : Hid _ := qN
    clear h9 at9
    refine ⟨_, rfl, HS.out, ?_⟩
    simp only [Act.put, List.setIfInBounds_toArray, List.set_cons_zero, List.set_cons_succ]
    (repeat (first | (refine Txt.tl_pure (v := ?_) (by rfl) ?_ ?_; rotate_left; (focus (intro _; go_simp; try with_reducible rfl)); simp only [Act.put, List.setIfInBounds_toArray, List.set_cons_zero, List.set_cons_succ]) | (refine Txt.tl_skip (by rfl) HS.out ?_; simp only [Act.put, List.setIfInBounds_toArray, List.set_cons_zero, List.set_cons_succ]) | (refine Txt.tl_rowN (by rfl) (by rfl) (by rfl) (HM.out.range 0 rfl) (by kernel_rfl) Rx.out ?_; simp only [Act.put, List.setIfInBounds_toArray, List.set_cons_zero, List.set_cons_succ]) | (refine Txt.tl_rowSN (by rfl) (by rfl) (by rfl) (fun w2 h => h) (by kernel_rfl) Rx.out ?_; simp only [Act.put, List.setIfInBounds_toArray, List.set_cons_zero, List.set_cons_succ])))
    refine Txt.tl_call Try.func15 (by kernel_rfl) (by kernel_rfl) (by rfl) (by rfl) (by rfl) (same_eq _ pa qa pn qn pc qc _ _ (pA.out.calm HK.out) qA.out HE.out) ?_
    rintro e w9 ⟨rfl, k9⟩
    have HM : Hid _ := HM.out.calm k9
    have HS : Hid (w9.rangeAt w.heap.size 0 (x.map bv)) := HM.out.range 0 rfl
    clear k9
    refine ⟨_, rfl, HS.out, ?_⟩
    simp only [Act.put, List.setIfInBounds_toArray, List.set_cons_zero, List.set_cons_succ]
    (repeat (first | (refine Txt.tl_pure (v := ?_) (by rfl) ?_ ?_; rotate_left; (focus (intro _; go_simp; try with_reducible rfl)); simp only [Act.put, List.setIfInBounds_toArray, List.set_cons_zero, List.set_cons_succ]) | (refine Txt.tl_skip (by rfl) HS.out ?_; simp only [Act.put, List.setIfInBounds_toArray, List.set_cons_zero, List.set_cons_succ]) | (refine Txt.tl_rowN (by rfl) (by rfl) (by rfl) (HM.out.range 0 rfl) (by kernel_rfl) Rx.out ?_; simp only [Act.put, List.setIfInBounds_toArray, List.set_cons_zero, List.set_cons_succ]) | (refine Txt.tl_rowSN (by rfl) (by rfl) (by rfl) (fun w2 h => h) (by kernel_rfl) Rx.out ?_; simp only [Act.put, List.setIfInBounds_toArray, List.set_cons_zero, List.set_cons_succ])))
    refine Txt.tl_call Try.func23 (by kernel_rfl) (by kernel_rfl) (by rfl) (by rfl) (by rfl) (without_any _ a n c l (A1.out.calm HM.out.keep) (by omega) x Lx.out) ?_
    rintro e w9 ⟨v9, rfl, h9⟩
    obtain ⟨pa, pn, pc, e9, at9, pN, _⟩ := h9.1.any'
    subst e9
    have pA : Hid (At w9 pa pn _) := at9
    have HK : Hid _ := h9.2.1
    have HM : Hid _ := HM.out.calm HK.out
    have HS : Hid (w9.rangeAt w.heap.size 0 (x.map bv)) := HM.out.range 0 rfl
    have pN : Hid _ := pN
    clear h9 at9
    refine ⟨_, rfl, HS.out, ?_⟩
    simp only [Act.put, List.setIfInBounds_toArray, List.set_cons_zero, List.set_cons_succ]
    (repeat (first | (refine Txt.tl_pure (v := ?_) (by rfl) ?_ ?_; rotate_left; (focus (intro _; go_simp; try with_reducible rfl)); simp only [Act.put, List.setIfInBounds_toArray, List.set_cons_zero, List.set_cons_succ]) | (refine Txt.tl_skip (by rfl) HS.out ?_; simp only [Act.put, List.setIfInBounds_toArray, List.set_cons_zero, List.set_cons_succ]) | (refine Txt.tl_rowN (by rfl) (by rfl) (by rfl) (HM.out.range 0 rfl) (by kernel_rfl) Rx.out ?_; simp only [Act.put, List.setIfInBounds_toArray, List.set_cons_zero, List.set_cons_succ]) | (refine Txt.tl_rowSN (by rfl) (by rfl) (by rfl) (fun w2 h => h) (by kernel_rfl) Rx.out ?_; simp only [Act.put, List.setIfInBounds_toArray, List.set_cons_zero, List.set_cons_succ])))
    refine Txt.tl_call Try.func32 (by kernel_rfl) (by kernel_rfl) (by rfl) (by rfl) (by rfl) (xwithout_any _ a3 n3 c3 _ (HM.out.get 1 rfl).atS hn3 x Lx.out) ?_
    rintro e w9 ⟨v9, rfl, h9⟩
    obtain ⟨qa, qn, qc, e9, at9, qN, _⟩ := h9.1.any'
    subst e9
    have qA : Hid (At w9 qa qn _) := at9
    have HK : Hid _ := h9.2.1
    have HM : Hid _ := HM.out.calm HK.out
    have HS : Hid (w9.rangeAt w.heap.size 0 (x.map bv)) := HM.out.range 0 rfl
    have qN : Hid _ := qN
    clear h9 at9
    refine ⟨_, rfl, HS.out, ?_⟩
    simp only [Act.put, List.setIfInBounds_toArray, List.set_cons_zero, List.set_cons_succ]
    (repeat (first | (refine Txt.tl_pure (v := ?_) (by rfl) ?_ ?_; rotate_left; (focus (intro _; go_simp; try with_reducible rfl)); simp only [Act.put, List.setIfInBounds_toArray, List.set_cons_zero, List.set_cons_succ]) | (refine Txt.tl_skip (by rfl) HS.out ?_; simp only [Act.put, List.setIfInBounds_toArray, List.set_cons_zero, List.set_cons_succ]) | (refine Txt.tl_rowN (by rfl) (by rfl) (by rfl) (HM.out.range 0 rfl) (by kernel_rfl) Rx.out ?_; simp only [Act.put, List.setIfInBounds_toArray, List.set_cons_zero, List.set_cons_succ]) | (refine Txt.tl_rowSN (by rfl) (by rfl) (by rfl) (fun w2 h => h) (by kernel_rfl) Rx.out ?_; simp only [Act.put, List.setIfInBounds_toArray, List.set_cons_zero, List.set_cons_succ])))
    refine Txt.tl_call Try.func15 (by kernel_rfl) (by kernel_rfl) (by rfl) (by rfl) (by rfl) (same_eq _ pa qa pn qn pc qc _ _ (pA.out.calm HK.out) qA.out rfl) ?_
    rintro e w9 ⟨rfl, k9⟩
    have HM : Hid _ := HM.out.calm k9
    have HS : Hid (w9.rangeAt w.heap.size 0 (x.map bv)) := HM.out.range 0 rfl
    clear k9
    refine ⟨_, rfl, HS.out, ?_⟩
    simp only [Act.put, List.setIfInBounds_toArray, List.set_cons_zero, List.set_cons_succ]
    (repeat (first | (refine Txt.tl_pure (v := ?_) (by rfl) ?_ ?_; rotate_left; (focus (intro _; go_simp; try with_reducible rfl)); simp only [Act.put, List.setIfInBounds_toArray, List.set_cons_zero, List.set_cons_succ]) | (refine Txt.tl_skip (by rfl) HS.out ?_; simp only [Act.put, List.setIfInBounds_toArray, List.set_cons_zero, List.set_cons_succ]) | (refine Txt.tl_rowN (by rfl) (by rfl) (by rfl) (HM.out.range 0 rfl) (by kernel_rfl) Rx.out ?_; simp only [Act.put, List.setIfInBounds_toArray, List.set_cons_zero, List.set_cons_succ]) | (refine Txt.tl_rowSN (by rfl) (by rfl) (by rfl) (fun w2 h => h) (by kernel_rfl) Rx.out ?_; simp only [Act.put, List.setIfInBounds_toArray, List.set_cons_zero, List.set_cons_succ])))
    refine Txt.tl_call Try.func27 (by kernel_rfl) (by kernel_rfl) (by rfl) (by rfl) (by rfl) (less_any _ a a2 n c n2 c2 l m (A1.out.calm HM.out.keep) (A2.out.calm HM.out.keep) (by omega) (by omega)) ?_
    rintro e w9 ⟨v9, rfl, h9⟩
    obtain ⟨pa, pn, pc, e9, at9, pN, _⟩ := h9.1.any'
    subst e9
    have pA : Hid (At w9 pa pn _) := at9
    have HK : Hid _ := h9.2.1
    have HM : Hid _ := HM.out.calm HK.out
    have HS : Hid (w9.rangeAt w.heap.size 0 (x.map bv)) := HM.out.range 0 rfl
    have pN : Hid _ := pN
    clear h9 at9
    refine ⟨_, rfl, HS.out, ?_⟩
    simp only [Act.put, List.setIfInBounds_toArray, List.set_cons_zero, List.set_cons_succ]
    (repeat (first | (refine Txt.tl_pure (v := ?_) (by rfl) ?_ ?_; rotate_left; (focus (intro _; go_simp; try with_reducible rfl)); simp only [Act.put, List.setIfInBounds_toArray, List.set_cons_zero, List.set_cons_succ]) | (refine Txt.tl_skip (by rfl) HS.out ?_; simp only [Act.put, List.setIfInBounds_toArray, List.set_cons_zero, List.set_cons_succ]) | (refine Txt.tl_rowN (by rfl) (by rfl) (by rfl) (HM.out.range 0 rfl) (by kernel_rfl) Rx.out ?_; simp only [Act.put, List.setIfInBounds_toArray, List.set_cons_zero, List.set_cons_succ]) | (refine Txt.tl_rowSN (by rfl) (by rfl) (by rfl) (fun w2 h => h) (by kernel_rfl) Rx.out ?_; simp only [Act.put, List.setIfInBounds_toArray, List.set_cons_zero, List.set_cons_succ])))
    refine Txt.tl_call Try.func33 (by kernel_rfl) (by kernel_rfl) (by rfl) (by rfl) (by rfl) (xless_any _ a a2 n c n2 c2 l m (A1.out.calm HM.out.keep) (A2.out.calm HM.out.keep) (by omega) (by omega)) ?_
    rintro e w9 ⟨v9, rfl, h9⟩
    obtain ⟨qa, qn, qc, e9, at9, qN, _⟩ := h9.1.any'
    subst e9
    have qA : Hid (At w9 qa qn _) := at9
    have HK : Hid _ := h9.2.1
    have HM : Hid _ := HM.out.calm HK.out
    have HS : Hid (w9.rangeAt w.heap.size 0 (x.map bv)) := HM.out.range 0 rfl
    have qN : Hid _ := qN
    clear h9 at9
    refine ⟨_, rfl, HS.out, ?_⟩
    simp only [Act.put, List.setIfInBounds_toArray, List.set_cons_zero, List.set_cons_succ]
    (repeat (first | (refine Txt.tl_pure (v := ?_) (by rfl) ?_ ?_; rotate_left; (focus (intro _; go_simp; try with_reducible rfl)); simp only [Act.put, List.setIfInBounds_toArray, List.set_cons_zero, List.set_cons_succ]) | (refine Txt.tl_skip (by rfl) HS.out ?_; simp only [Act.put, List.setIfInBounds_toArray, List.set_cons_zero, List.set_cons_succ]) | (refine Txt.tl_rowN (by rfl) (by rfl) (by rfl) (HM.out.range 0 rfl) (by kernel_rfl) Rx.out ?_; simp only [Act.put, List.setIfInBounds_toArray, List.set_cons_zero, List.set_cons_succ]) | (refine Txt.tl_rowSN (by rfl) (by rfl) (by rfl) (fun w2 h => h) (by kernel_rfl) Rx.out ?_; simp only [Act.put, List.setIfInBounds_toArray, List.set_cons_zero, List.set_cons_succ])))
    refine Txt.tl_call Try.func15 (by kernel_rfl) (by kernel_rfl) (by rfl) (by rfl) (by rfl) (same_eq _ pa qa pn qn pc qc _ _ (pA.out.calm HK.out) qA.out rfl) ?_
    rintro e w9 ⟨rfl, k9⟩
    have HM : Hid _ := HM.out.calm k9
    have HS : Hid (w9.rangeAt w.heap.size 0 (x.map bv)) := HM.out.range 0 rfl
    clear k9
    refine ⟨_, rfl, HS.out, ?_⟩
    simp only [Act.put, List.setIfInBounds_toArray, List.set_cons_zero, List.set_cons_succ]
    (repeat (first | (refine Txt.tl_pure (v := ?_) (by rfl) ?_ ?_; rotate_left; (focus (intro _; go_simp; try with_reducible rfl)); simp only [Act.put, List.setIfInBounds_toArray, List.set_cons_zero, List.set_cons_succ]) | (refine Txt.tl_skip (by rfl) HS.out ?_; simp only [Act.put, List.setIfInBounds_toArray, List.set_cons_zero, List.set_cons_succ]) | (refine Txt.tl_rowN (by rfl) (by rfl) (by rfl) (HM.out.range 0 rfl) (by kernel_rfl) Rx.out ?_; simp only [Act.put, List.setIfInBounds_toArray, List.set_cons_zero, List.set_cons_succ]) | (refine Txt.tl_rowSN (by rfl) (by rfl) (by rfl) (fun w2 h => h) (by kernel_rfl) Rx.out ?_; simp only [Act.put, List.setIfInBounds_toArray, List.set_cons_zero, List.set_cons_succ])))
    refine Txt.tl_call Try.func24 (by kernel_rfl) (by kernel_rfl) (by rfl) (by rfl) (by rfl) (both_any _ a a2 n c n2 c2 l m (A1.out.calm HM.out.keep) (A2.out.calm HM.out.keep) (by omega)) ?_
    rintro e w9 ⟨v9, rfl, h9⟩
    obtain ⟨pa, pn, pc, e9, at9, pN, _⟩ := h9.1.any'
    subst e9
    have pA : Hid (At w9 pa pn _) := at9
    have HK : Hid _ := h9.2.1
    have HM : Hid _ := HM.out.calm HK.out
    have HS : Hid (w9.rangeAt w.heap.size 0 (x.map bv)) := HM.out.range 0 rfl
    have pN : Hid _ := pN
    clear h9 at9
    refine ⟨_, rfl, HS.out, ?_⟩
    simp only [Act.put, List.setIfInBounds_toArray, List.set_cons_zero, List.set_cons_succ]
    (repeat (first | (refine Txt.tl_pure (v := ?_) (by rfl) ?_ ?_; rotate_left; (focus (intro _; go_simp; try with_reducible rfl)); simp only [Act.put, List.setIfInBounds_toArray, List.set_cons_zero, List.set_cons_succ]) | (refine Txt.tl_skip (by rfl) HS.out ?_; simp only [Act.put, List.setIfInBounds_toArray, List.set_cons_zero, List.set_cons_succ]) | (refine Txt.tl_rowN (by rfl) (by rfl) (by rfl) (HM.out.range 0 rfl) (by kernel_rfl) Rx.out ?_; simp only [Act.put, List.setIfInBounds_toArray, List.set_cons_zero, List.set_cons_succ]) | (refine Txt.tl_rowSN (by rfl) (by rfl) (by rfl) (fun w2 h => h) (by kernel_rfl) Rx.out ?_; simp only [Act.put, List.setIfInBounds_toArray, List.set_cons_zero, List.set_cons_succ])))
    refine Txt.tl_call Try.func34 (by kernel_rfl) (by kernel_rfl) (by rfl) (by rfl) (by rfl) (xboth_any _ a2 a n2 c2 n c l m (A1.out.calm HM.out.keep) (A2.out.calm HM.out.keep) (by omega)) ?_
    rintro e w9 ⟨v9, rfl, h9⟩
    obtain ⟨qa, qn, qc, e9, at9, qN, _⟩ := h9.1.any'
    subst e9
    have qA : Hid (At w9 qa qn _) := at9
    have HK : Hid _ := h9.2.1
    have HM : Hid _ := HM.out.calm HK.out
    have HS : Hid (w9.rangeAt w.heap.size 0 (x.map bv)) := HM.out.range 0 rfl
    have qN : Hid _ := qN
    clear h9 at9
    refine ⟨_, rfl, HS.out, ?_⟩
    simp only [Act.put, List.setIfInBounds_toArray, List.set_cons_zero, List.set_cons_succ]
    (repeat (first | (refine Txt.tl_pure (v := ?_) (by rfl) ?_ ?_; rotate_left; (focus (intro _; go_simp; try with_reducible rfl)); simp only [Act.put, List.setIfInBounds_toArray, List.set_cons_zero, List.set_cons_succ]) | (refine Txt.tl_skip (by rfl) HS.out ?_; simp only [Act.put, List.setIfInBounds_toArray, List.set_cons_zero, List.set_cons_succ]) | (refine Txt.tl_rowN (by rfl) (by rfl) (by rfl) (HM.out.range 0 rfl) (by kernel_rfl) Rx.out ?_; simp only [Act.put, List.setIfInBounds_toArray, List.set_cons_zero, List.set_cons_succ]) | (refine Txt.tl_rowSN (by rfl) (by rfl) (by rfl) (fun w2 h => h) (by kernel_rfl) Rx.out ?_; simp only [Act.put, List.setIfInBounds_toArray, List.set_cons_zero, List.set_cons_succ])))
    refine Txt.tl_call Try.func15 (by kernel_rfl) (by kernel_rfl) (by rfl) (by rfl) (by rfl) (same_eq _ pa qa pn qn pc qc _ _ (pA.out.calm HK.out) qA.out rfl) ?_
    rintro e w9 ⟨rfl, k9⟩
    have HM : Hid _ := HM.out.calm k9
    have HS : Hid (w9.rangeAt w.heap.size 0 (x.map bv)) := HM.out.range 0 rfl
    clear k9
    refine ⟨_, rfl, HS.out, ?_⟩
    simp only [Act.put, List.setIfInBounds_toArray, List.set_cons_zero, List.set_cons_succ]
    (repeat (first | (refine Txt.tl_pure (v := ?_) (by rfl) ?_ ?_; rotate_left; (focus (intro _; go_simp; try with_reducible rfl)); simp only [Act.put, List.setIfInBounds_toArray, List.set_cons_zero, List.set_cons_succ]) | (refine Txt.tl_skip (by rfl) HS.out ?_; simp only [Act.put, List.setIfInBounds_toArray, List.set_cons_zero, List.set_cons_succ]) | (refine Txt.tl_rowN (by rfl) (by rfl) (by rfl) (HM.out.range 0 rfl) (by kernel_rfl) Rx.out ?_; simp only [Act.put, List.setIfInBounds_toArray, List.set_cons_zero, List.set_cons_succ]) | (refine Txt.tl_rowSN (by rfl) (by rfl) (by rfl) (fun w2 h => h) (by kernel_rfl) Rx.out ?_; simp only [Act.put, List.setIfInBounds_toArray, List.set_cons_zero, List.set_cons_succ])))
    refine Txt.tl_call Try.func12 (by kernel_rfl) (by kernel_rfl) (by rfl) (by rfl) (by rfl) (awake_true _) ?_
    rintro e w9 ⟨rfl, k9⟩
    have HM : Hid _ := HM.out.calm k9
    have HS : Hid (w9.rangeAt w.heap.size 0 (x.map bv)) := HM.out.range 0 rfl
    clear k9
    refine ⟨_, rfl, HS.out, ?_⟩
    simp only [Act.put, List.setIfInBounds_toArray, List.set_cons_zero, List.set_cons_succ]
    (repeat (first | (refine Txt.tl_pure (v := ?_) (by rfl) ?_ ?_; rotate_left; (focus (intro _; go_simp; try with_reducible rfl)); simp only [Act.put, List.setIfInBounds_toArray, List.set_cons_zero, List.set_cons_succ]) | (refine Txt.tl_skip (by rfl) HS.out ?_; simp only [Act.put, List.setIfInBounds_toArray, List.set_cons_zero, List.set_cons_succ]) | (refine Txt.tl_rowN (by rfl) (by rfl) (by rfl) (HM.out.range 0 rfl) (by kernel_rfl) Rx.out ?_; simp only [Act.put, List.setIfInBounds_toArray, List.set_cons_zero, List.set_cons_succ]) | (refine Txt.tl_rowSN (by rfl) (by rfl) (by rfl) (fun w2 h => h) (by kernel_rfl) Rx.out ?_; simp only [Act.put, List.setIfInBounds_toArray, List.set_cons_zero, List.set_cons_succ])))
    refine Txt.tl_nil ?_
    go_wp2
    go_ret
    exact ⟨rfl, Keep.below HM.out.keep (Nat.le_refl _) (fun _ h => h.elim)⟩
  · go_enter Try.func7, Try.ntmps7
    go_wp2_with (first | (go_at_call 25; refine (much_yes _ a a2 n c n2 c2 A1.out.most A2.out.most hgo).mono ?_; rintro e w' ⟨rfl, rfl⟩) | (go_at_call 12; refine (awake_true _).mono ?_; rintro e w5 ⟨rfl, k1⟩; have HM : Hid _ := HM.out.calm k1; clear k1))
    go_ret
    exact ⟨rfl, Keep.below HM.out.keep (Nat.le_refl _) (fun _ h => h.elim)⟩
set_option maxRecDepth 100000 in
theorem own : ownKnob Try.prog.godebug = none := by kernel_rfl
set_option maxRecDepth 100000 in
theorem laidOut : laidOutB Try.prog = true := by kernel_rfl
set_option maxRecDepth 100000 in
theorem contract (H : Type) (enc : TypeId × Value → H) (W : World) (base : Nat) (args : Array Value) (ds gs : List (DataW H)) (before : List MemPlace)
    (hval : ∀ (j : Nat) t v, Try.f7.params[j]? = some t → args[j]? = some v → Value.okWide Try.prog W .any base t v)
    (hW : DataW.Whole enc Try.prog Try.f7.params.toList Rows.identSetsSpec.vars false W args.toList ds gs before) :
    Calls Try.prog 7 args W fun e W' => ∃ v, e = .returned v ∧ Rows.identSetsSpec.post enc Try.prog Try.f7 false true false false W args v W' := by
  have hW' := hW
  obtain ⟨p, q, hA0, hV, rfl, hfz, hnd⟩ := hW
  have hA : DataW.TrodAll enc Try.prog W 0 (fun _ => true) true Try.f7.params.toList args.toList ds p := hA0
  rw [Try.params7] at hA hval
  obtain ⟨rfl, rfl⟩ := trodVars_none hV
  obtain ⟨v0, vs0, d0, ds0, p0, q0, hargs, rfl, rfl, h0, r0⟩ := trodAll_cons hA
  obtain ⟨v1, vs1, d1, ds1, p1, q1, rfl, rfl, rfl, h1, r1⟩ := trodAll_cons r0
  obtain ⟨v2, vs2, d2, ds2, p2, q2, rfl, rfl, rfl, h2, r2⟩ := trodAll_cons r1
  obtain ⟨rfl, rfl, rfl⟩ := trodAll_nil r2
  obtain rfl : args = #[v0, v1, v2] := by cases args; simp_all
  obtain ⟨a, n, c, l, rfl, f0⟩ := Opn.open_idl (hval 0 _ v0 rfl rfl) h0
  obtain ⟨a2, n2, c2, m, rfl, f1⟩ := Opn.open_idl (hval 1 _ v1 rfl rfl) h1
  obtain ⟨x, rfl, lx⟩ := Opn.open_id (hval 2 _ v2 rfl rfl) h2
  refine (walk W a a2 n c n2 c2 l m x f0 f1 lx).mono fun e W' ⟨he, bel⟩ => ?_
  subst he
  exact ⟨_, rfl, Opn.law_post laidOut (by kernel_rfl) rfl Try.underlying4 rfl rfl hW' bel⟩
set_option maxRecDepth 100000 in
theorem lifted (os : Os) (started : os.Started) (H : Type) (enc : TypeId × Value → H) :
    ReturnsInHanded {} Try.checked os 7 .any (Rows.identSetsSpec.pre6 enc Try.prog Try.f7 Rows.identSetsRow.domain false) (Rows.identSetsSpec.post enc Try.prog Try.f7 false true false false) := by
  refine returnsInHanded_of_change (C := Try.checked) own started (by kernel_rfl) Try.func7
    (ChangeSpec.witness6 (enc := enc) (C := Try.checked) false ⟨#[], #[.slice none 0 0, .slice none 0 0, idv (List.replicate 32 0)], []⟩ 8 (by kernel_rfl) (by kernel_rfl) (by kernel_rfl) (by kernel_rfl)) ?_
  intro W base args ds gs before hval0 hW hcnd _
  exact contract H enc W base args ds gs before hval0 hW
theorem over : Rows.identSetsRow.holds Try.pinned (OpenSpec.ofChange Rows.identSetsSpec) :=
  OpenClaim.holds_of_wide 7 Try.f7 rfl rfl rfl rfl rfl rfl rfl ⟨rfl, rfl, rfl, rfl, rfl⟩ rfl rfl rfl rfl rfl (by kernel_rfl) Try.func7 (by kernel_rfl)
    (of_decide_eq_true (by kernel_rfl)) (by unfold Func.isWrapper; first | (rw [if_pos (by decide +kernel)]; kernel_rfl) | (rw [if_neg (by decide +kernel)]; exact ⟨rfl, rfl⟩))
    (fun os started H enc _ => lifted os started H enc)
theorem proved : Rows.IdentSetsSaid := over
end IdentSets
end Go.Proofs.Ytkoolpalhahigaa
