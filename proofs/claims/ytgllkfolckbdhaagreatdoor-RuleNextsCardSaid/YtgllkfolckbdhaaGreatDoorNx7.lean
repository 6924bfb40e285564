/-
  rule.Next behind no heads, behind any; the doors 'much' and 'awake' of petrellaw15.
-/
import Derived.Test.YtgllkfolckbdhaaGreatDoorNx5
set_option linter.unusedVariables false
set_option linter.unusedSimpArgs false
namespace Go.Proofs.YtgllkfolckbdhaaGreatDoor
open Go.RowKit
namespace St
section
variable {α : Type} {T t : TypeId} {n bytes : Nat} {Z : Array Value} {w : World} {ops : Array Oper} {rest : List Oper} {o : Oper} {a : Act} {Q : Exit → Act → World → Prop}
/-- '[]T{x}', guarded or not. -/
theorem wl_buildG (hsl : SlT Tryz.prog t T (.agg Z) n bytes) (hnn : n ≤ 10000) (hw : Region.wanted o (yielded ops a.tmps) = true) {x : Operand} (ho : o.op = .buildSlice t 1 #[(0, x)]) {cs : List Value} (hl : cs.length = n) (hx : a.eval x = .agg cs.toArray)
    (h : wpList Tryz.prog ops Q rest (a.put o.dst (.slice (some ⟨w.heap.size, 0, none⟩) 1 1)) (w.alloc (.cells cs.toArray T))) : wpList Tryz.prog ops Q (o :: rest) a w :=
  wpList_step fun K hK => by
    rw [if_pos hw]
    exact wp_build hsl hnn ho hl hx (hK _ _ h)
/-- One that lies in a block of its own, as a row. -/
theorem at_one {α : Type} {n : Nat} {enc : α → List Value} {w : World} {b : Nat} {x : α} {t : TypeId} {fr : Nat × Nat} (h : w.heap[b]? = some (.cells (enc x).toArray t fr)) : St.At n enc w (some ⟨b, 0, none⟩) 1 [x] := by
  refine ⟨rfl, by unfold maxLen; omega, .inr ⟨b, 0, rfl, lt_of_block h, fun i y hi => ?_⟩⟩
  have hi0 : i = 0 := by have := (List.getElem?_eq_some_iff.1 hi).1; simp at this; omega
  subst hi0
  cases hi
  intro j v hj
  rw [show (0 + 0 * n + j) = j by omega, cell_of h, List.getElem?_toArray]
  exact hj
end
end St
namespace Nx
open Oct Ids Gn Hd Ru
open Mem (M It blk ids rows)
/-- Guards of arms: which operation stands next. -/
theorem at_alloc {P : Program} {ops : Array Oper} {Q : Exit → Act → World → Prop} {d : Option Tmp} {ty : TypeId} {p : String} {af} {g} {rest : List Oper} {a : Act} {w : World} (T : TypeId) (h : wpList P ops Q ({ dst := d, op := .alloc T, type := ty, pos := p, after := af, guard := g } :: rest) a w) : wpList P ops Q ({ dst := d, op := .alloc T, type := ty, pos := p, after := af, guard := g } :: rest) a w := h
theorem at_store {P : Program} {ops : Array Oper} {Q : Exit → Act → World → Prop} {d : Option Tmp} {ty : TypeId} {p : String} {x y : Operand} {af} {g} {rest : List Oper} {a : Act} {w : World} (T : TypeId) (h : wpList P ops Q ({ dst := d, op := .store T x y, type := ty, pos := p, after := af, guard := g } :: rest) a w) : wpList P ops Q ({ dst := d, op := .store T x y, type := ty, pos := p, after := af, guard := g } :: rest) a w := h
set_option maxRecDepth 100000 in
theorem names_nil (w : World) (a : Option Addr) (c : Nat) : Calls Tryz.prog 27 #[.slice a 0 c] w fun e w' => e = .returned (.tuple #[.slice none 0 0, .int .i64 0]) ∧ Keep (fun _ => False) w w' := by
  have HM : Hid (M (fun _ => False) w w []) := M.start _ w
  go_enter Tryz.func27, Tryz.ntmps27
  go_wp2
  refine wp_loop_rounds 1 ?_
  rw [rounds_succ]
  go_wp2_with (first | (go_at_call 54; refine (sort_none _ none 0 _).mono ?_; rintro e w5 ⟨rfl, k5⟩; have HM : Hid _ := HM.out.calm k5; clear k5) | (go_at_call 56; refine (rev_none _ none 0).mono ?_; rintro e w6 ⟨rfl, k6⟩; have HM : Hid _ := HM.out.calm k6; clear k6))
  go_ret2
  exact ⟨rfl, HM.out.keep⟩
set_option maxRecDepth 100000 in
set_option maxHeartbeats 8000000 in
theorem next_nil (w : World) (a : Option Addr) (c : Nat) (T : ByteArray) (A Q Z : Int) (m : List UInt8) (hm : m.length = 32) (hT : T.size ≤ maxLen) :
    Calls Tryz.prog 8 #[.slice a 0 c, .string T, .int .i64 A, .int .i64 Q, .int .i64 Z, idv m] w (NextPost w [] T A Q Z m) := by
  have HM : Hid (M (fun _ => False) w _ [blk w.heap.size (.cells (m.map bv).toArray 24), blk (w.heap.size + 1) (.cells hz0 28)]) := ((M.start _ w).alloc (.cells (m.map bv).toArray 24) rfl).alloc (.cells hz0 28) (by simp)
  have HB : Hid (bad [] = none) := (rfl : _ = _)
  have Hm : Hid (m.length = 32) := hm
  have HT : Hid (T.size ≤ maxLen) := hT
  have HCk : Hid (∀ w' n' a' c' l G, At w' a' n' l → n' ≤ 1000000 → Calls Tryz.prog 30 #[.agg (hd (.slice a' n' c') G T A Q Z m).toArray] w' fun e w'' => e = .returned (.int .i64 (ck n' l G T A Q Z)) ∧ Keep (fun _ => False) w' w'') := fun w' n' a' c' l G h h2 => check_any w' a' n' c' l G T A Q Z m h Hm.out h2 HT.out _ rfl
  clear hm hT
  go_enter Tryz.func8, Tryz.ntmps8
  go_wp2_with (first | (refine St.wl_alloc tyH rfl rfl (by (try simp only [World.size_alloc]); rfl) ?_; simp only [Act.put, List.setIfInBounds_toArray, List.set_cons_zero, List.set_cons_succ]) | (go_at_call 27; refine (names_nil _ a c).mono ?_; rintro e w1 ⟨rfl, k1⟩; have HM : Hid _ := HM.out.calm k1; clear k1))
  have HM : Hid _ := ((HM.out.nilR 28 38 he).nilR 28 38 he).nilI
  have HSG : Hid (hgt [] = selG []) := by show _ = _; simp [hgt, selG, sel, srtD]
  have HSL : Hid (IdL.setL [] = selL []) := by show _ = _; simp [selL, sel, srtD]
  obtain ⟨sg, hsg⟩ : ∃ s, selG [] = s := ⟨_, rfl⟩
  obtain ⟨sl, hsl⟩ : ∃ s, selL [] = s := ⟨_, rfl⟩
  have Hsg : Hid (selG [] = sg) := hsg
  have Hsl : Hid (selL [] = sl) := hsl
  rw [hsg] at HSG
  rw [hsl] at HSL
  have Hsn : Hid (sl.length ≤ 20) := by
    show _ ≤ _
    rw [← HSL.out]
    exact Nat.le_trans (IdL.setL_len _) (by simp)
  clear hsg hsl
  refine wp_loop_rounds 1 ?_
  rw [rounds_succ]
  go_wp2
  refine Txt.region_to (fun a a' w' => ∃ (a8 : Option Addr) (c8 b20 : Nat), a' = (((((((((((a.put (some 52) (.slice none 0 0)).put (some 53) (.slice a8 sl.length c8)).put (some 54) (.slice none 0 0)).put (some 55) (.int .i64 sg)).put (some 56) (.string T)).put (some 57) (.int .i64 A)).put (some 58) (.int .i64 Q)).put (some 59) (.int .i64 Z)).put (some 60) (idv m)).put (some 61) (.agg (hd (.slice a8 sl.length c8) sg T A Q Z m).toArray)).put (some 20) (.pointer (some ⟨b20, 0, none⟩))) ∧ Hid (M (fun _ => False) w w' [blk w.heap.size (.cells (m.map bv).toArray 24), blk (w.heap.size + 1) (.cells hz0 28), ids (.slice a8 sl.length c8) sl, blk b20 (.cells (hd (.slice a8 sl.length c8) sg T A Q Z m).toArray 28)])) ?_ ?_
  · refine wp_region_any (by kernel_rfl) ?_
    change wpAny _ _ _ _ _ _ _ (World.drew _)
    have HM : Hid _ := HM.out.drew
    refine wpAny_take (i := 0) (v := ?_) rfl (by kernel_rfl) (by kernel_rfl) (by kernel_rfl) (fun _ _ _ h => by cases h.1) (Or.inl ⟨by rfl, ?_⟩) ?_; rotate_left; (focus (intro w; go_simp; try with_reducible rfl)); simp only [Act.put, List.setIfInBounds_toArray, List.set_cons_zero, List.set_cons_succ]
    refine wpAny_take (i := 2) (v := ?_) rfl (by kernel_rfl) (by kernel_rfl) (by kernel_rfl) (fun _ _ _ h => by cases h.1) (Or.inl ⟨by rfl, ?_⟩) ?_; rotate_left; (focus (intro w; go_simp; try with_reducible rfl)); simp only [Act.put, List.setIfInBounds_toArray, List.set_cons_zero, List.set_cons_succ]
    refine wpAny_take (i := 4) (v := ?_) rfl (by kernel_rfl) (by kernel_rfl) (by kernel_rfl) (fun _ _ _ h => by cases h.1) (Or.inl ⟨by rfl, ?_⟩) ?_; rotate_left; (focus (intro w; go_simp; try with_reducible rfl)); simp only [Act.put, List.setIfInBounds_toArray, List.set_cons_zero, List.set_cons_succ]
    refine wpAny_take (i := 5) (v := ?_) rfl (by kernel_rfl) (by kernel_rfl) (by kernel_rfl) (fun _ _ _ h => by cases h.1) (Or.inl ⟨by rfl, ?_⟩) ?_; rotate_left; (focus (intro w; go_simp; try with_reducible rfl)); simp only [Act.put, List.setIfInBounds_toArray, List.set_cons_zero, List.set_cons_succ]
    refine wpAny_take (i := 6) (v := ?_) rfl (by kernel_rfl) (by kernel_rfl) (by kernel_rfl) (fun _ _ _ h => by cases h.1) (Or.inl ⟨by rfl, ?_⟩) ?_; rotate_left; (focus (intro w; go_simp; try with_reducible rfl)); simp only [Act.put, List.setIfInBounds_toArray, List.set_cons_zero, List.set_cons_succ]
    refine wpAny_take (i := 7) (v := ?_) rfl (by kernel_rfl) (by kernel_rfl) (by kernel_rfl) (fun _ _ _ h => by cases h.1) (Or.inl ⟨by rfl, ?_⟩) ?_; rotate_left; (focus (intro w; go_simp; try with_reducible rfl)); simp only [Act.put, List.setIfInBounds_toArray, List.set_cons_zero, List.set_cons_succ]
    refine Txt.any3 1 8 10 (by decide) (by decide) (by decide) (by kernel_rfl) (by kernel_rfl) ?_ ?_ ?_
    · simp only [List.getElem_toArray, List.getElem_cons_succ, List.getElem_cons_zero]
      refine Txt.wp_call Tryz.func28 (by kernel_rfl) (by kernel_rfl) rfl (vs := #[.slice none 0 0]) rfl (set_any _ none 0 0 _ (iat (HM.out.get 4 rfl)) (by omega)) ?_; rw [HSL.out]; rintro e w7 ⟨v7, rfl, n7⟩; obtain ⟨a8, c8, e8, _⟩ := n7.1.at; have HM : Hid _ := HM.out.add (x := ids v7 sl) n7.2.1 n7.1 (fun k hk => ⟨n7.2.2 k hk, n7.1.lt hk⟩); subst e8; clear n7; refine ⟨_, rfl, ?_⟩; simp only [Act.put, List.setIfInBounds_toArray, List.set_cons_zero, List.set_cons_succ]
      refine Txt.any3 3 8 10 (by decide) (by decide) (by decide) (by kernel_rfl) (by kernel_rfl) ?_ ?_ ?_
      · simp only [List.getElem_toArray, List.getElem_cons_succ, List.getElem_cons_zero]
        refine Txt.wp_call Tryz.func29 (by kernel_rfl) (by kernel_rfl) rfl (vs := #[.slice none 0 0]) rfl (height_any _ none 0 0 _ (hat (HM.out.get 3 rfl)) (by omega)) ?_; rw [HSG.out]; rintro e w8 ⟨rfl, k8⟩; have HM : Hid _ := HM.out.calm k8; clear k8; refine ⟨_, rfl, ?_⟩; simp only [Act.put, List.setIfInBounds_toArray, List.set_cons_zero, List.set_cons_succ]
        refine Txt.any2 8 10 (by decide) (by decide) (by kernel_rfl) (by kernel_rfl) ?_ ?_
        · simp only [List.getElem_toArray, List.getElem_cons_succ, List.getElem_cons_zero]
          refine Txt.wp_ldN (n := 32) (ty := 24) rfl rfl (HM.out.range 0 rfl) (by kernel_rfl) (by rw [List.length_map]; exact Hm.out) ?_; simp only [Act.put, List.setIfInBounds_toArray, List.set_cons_zero, List.set_cons_succ]
          refine wpAny_take (i := 9) (v := .agg (hd (.slice a8 sl.length c8) sg T A Q Z m).toArray) rfl (by kernel_rfl) (by decide +kernel) (by decide +kernel) (fun _ _ _ h => by cases h.1) (Or.inl ⟨by rfl, Txt.ex_build rfl [(0, .slice a8 sl.length c8), (1, .int .i64 sg), (2, .string T), (3, .int .i64 A), (4, .int .i64 Q), (5, .int .i64 Z), (6, idv m)] rfl (fun w => run_bld w _ _ (built_hd a8 sl.length c8 sg T A Q Z m Hm.out))⟩) ?_; simp only [Act.put, List.setIfInBounds_toArray, List.set_cons_zero, List.set_cons_succ]
          refine Txt.any1 10 (by decide) (by kernel_rfl) (by kernel_rfl) ?_
          simp only [List.getElem_toArray, List.getElem_cons_succ, List.getElem_cons_zero]
          refine St.wp_alloc tyH rfl ?_; have HM : Hid _ := HM.out.alloc (.cells hz0 28) rfl; simp only [Act.put, List.setIfInBounds_toArray, List.set_cons_zero, List.set_cons_succ]
          refine Txt.any1 11 (by decide) (by kernel_rfl) (by kernel_rfl) ?_
          simp only [List.getElem_toArray, List.getElem_cons_succ, List.getElem_cons_zero]
          first | (refine St.wp_store tyH rfl rfl rfl rfl (cs := (hd (.slice a8 sl.length c8) sg T A Q Z m).toArray) (hd_sz' Hm.out) (hd_one _ _ _ _ _ _ _ _ _) (HM.out.get 6 rfl) rfl ?_; have HM : Hid _ := HM.out.setr 6 rfl (hd (.slice a8 sl.length c8) sg T A Q Z m).toArray) | (refine St.wp_store tyH rfl rfl rfl rfl (cs := (hd (.slice a8 sl.length c8) sg T A Q Z m).toArray) (hd_sz' Hm.out) (hd_one _ _ _ _ _ _ _ _ _) (HM.out.get 5 rfl) rfl ?_; have HM : Hid _ := HM.out.setr 5 rfl (hd (.slice a8 sl.length c8) sg T A Q Z m).toArray)
          refine wpAny_done (by kernel_rfl) ?_ _
          refine ⟨rfl, ?_⟩
          first | exact ⟨_, _, _, rfl, HM.out.sub _ [0, 1, 5, 6] (by decide) rfl⟩ | exact ⟨_, _, _, rfl, HM.out.sub _ [0, 1, 6, 5] (by decide) rfl⟩
        · simp only [List.getElem_toArray, List.getElem_cons_succ, List.getElem_cons_zero]
          refine St.wp_alloc tyH rfl ?_; have HM : Hid _ := HM.out.alloc (.cells hz0 28) rfl; simp only [Act.put, List.setIfInBounds_toArray, List.set_cons_zero, List.set_cons_succ]
          refine Txt.any1 8 (by decide) (by kernel_rfl) (by kernel_rfl) ?_
          simp only [List.getElem_toArray, List.getElem_cons_succ, List.getElem_cons_zero]
          refine Txt.wp_ldN (n := 32) (ty := 24) rfl rfl (HM.out.range 0 rfl) (by kernel_rfl) (by rw [List.length_map]; exact Hm.out) ?_; simp only [Act.put, List.setIfInBounds_toArray, List.set_cons_zero, List.set_cons_succ]
          refine wpAny_take (i := 9) (v := .agg (hd (.slice a8 sl.length c8) sg T A Q Z m).toArray) rfl (by kernel_rfl) (by decide +kernel) (by decide +kernel) (fun _ _ _ h => by cases h.1) (Or.inl ⟨by rfl, Txt.ex_build rfl [(0, .slice a8 sl.length c8), (1, .int .i64 sg), (2, .string T), (3, .int .i64 A), (4, .int .i64 Q), (5, .int .i64 Z), (6, idv m)] rfl (fun w => run_bld w _ _ (built_hd a8 sl.length c8 sg T A Q Z m Hm.out))⟩) ?_; simp only [Act.put, List.setIfInBounds_toArray, List.set_cons_zero, List.set_cons_succ]
          refine Txt.any1 11 (by decide) (by kernel_rfl) (by kernel_rfl) ?_
          simp only [List.getElem_toArray, List.getElem_cons_succ, List.getElem_cons_zero]
          first | (refine St.wp_store tyH rfl rfl rfl rfl (cs := (hd (.slice a8 sl.length c8) sg T A Q Z m).toArray) (hd_sz' Hm.out) (hd_one _ _ _ _ _ _ _ _ _) (HM.out.get 6 rfl) rfl ?_; have HM : Hid _ := HM.out.setr 6 rfl (hd (.slice a8 sl.length c8) sg T A Q Z m).toArray) | (refine St.wp_store tyH rfl rfl rfl rfl (cs := (hd (.slice a8 sl.length c8) sg T A Q Z m).toArray) (hd_sz' Hm.out) (hd_one _ _ _ _ _ _ _ _ _) (HM.out.get 5 rfl) rfl ?_; have HM : Hid _ := HM.out.setr 5 rfl (hd (.slice a8 sl.length c8) sg T A Q Z m).toArray)
          refine wpAny_done (by kernel_rfl) ?_ _
          refine ⟨rfl, ?_⟩
          first | exact ⟨_, _, _, rfl, HM.out.sub _ [0, 1, 5, 6] (by decide) rfl⟩ | exact ⟨_, _, _, rfl, HM.out.sub _ [0, 1, 6, 5] (by decide) rfl⟩
      · simp only [List.getElem_toArray, List.getElem_cons_succ, List.getElem_cons_zero]
        refine Txt.wp_ldN (n := 32) (ty := 24) rfl rfl (HM.out.range 0 rfl) (by kernel_rfl) (by rw [List.length_map]; exact Hm.out) ?_; simp only [Act.put, List.setIfInBounds_toArray, List.set_cons_zero, List.set_cons_succ]
        refine Txt.any2 3 10 (by decide) (by decide) (by kernel_rfl) (by kernel_rfl) ?_ ?_
        · simp only [List.getElem_toArray, List.getElem_cons_succ, List.getElem_cons_zero]
          refine Txt.wp_call Tryz.func29 (by kernel_rfl) (by kernel_rfl) rfl (vs := #[.slice none 0 0]) rfl (height_any _ none 0 0 _ (hat (HM.out.get 3 rfl)) (by omega)) ?_; rw [HSG.out]; rintro e w8 ⟨rfl, k8⟩; have HM : Hid _ := HM.out.calm k8; clear k8; refine ⟨_, rfl, ?_⟩; simp only [Act.put, List.setIfInBounds_toArray, List.set_cons_zero, List.set_cons_succ]
          refine wpAny_take (i := 9) (v := .agg (hd (.slice a8 sl.length c8) sg T A Q Z m).toArray) rfl (by kernel_rfl) (by decide +kernel) (by decide +kernel) (fun _ _ _ h => by cases h.1) (Or.inl ⟨by rfl, Txt.ex_build rfl [(0, .slice a8 sl.length c8), (1, .int .i64 sg), (2, .string T), (3, .int .i64 A), (4, .int .i64 Q), (5, .int .i64 Z), (6, idv m)] rfl (fun w => run_bld w _ _ (built_hd a8 sl.length c8 sg T A Q Z m Hm.out))⟩) ?_; simp only [Act.put, List.setIfInBounds_toArray, List.set_cons_zero, List.set_cons_succ]
          refine Txt.any1 10 (by decide) (by kernel_rfl) (by kernel_rfl) ?_
          simp only [List.getElem_toArray, List.getElem_cons_succ, List.getElem_cons_zero]
          refine St.wp_alloc tyH rfl ?_; have HM : Hid _ := HM.out.alloc (.cells hz0 28) rfl; simp only [Act.put, List.setIfInBounds_toArray, List.set_cons_zero, List.set_cons_succ]
          refine Txt.any1 11 (by decide) (by kernel_rfl) (by kernel_rfl) ?_
          simp only [List.getElem_toArray, List.getElem_cons_succ, List.getElem_cons_zero]
          first | (refine St.wp_store tyH rfl rfl rfl rfl (cs := (hd (.slice a8 sl.length c8) sg T A Q Z m).toArray) (hd_sz' Hm.out) (hd_one _ _ _ _ _ _ _ _ _) (HM.out.get 6 rfl) rfl ?_; have HM : Hid _ := HM.out.setr 6 rfl (hd (.slice a8 sl.length c8) sg T A Q Z m).toArray) | (refine St.wp_store tyH rfl rfl rfl rfl (cs := (hd (.slice a8 sl.length c8) sg T A Q Z m).toArray) (hd_sz' Hm.out) (hd_one _ _ _ _ _ _ _ _ _) (HM.out.get 5 rfl) rfl ?_; have HM : Hid _ := HM.out.setr 5 rfl (hd (.slice a8 sl.length c8) sg T A Q Z m).toArray)
          refine wpAny_done (by kernel_rfl) ?_ _
          refine ⟨rfl, ?_⟩
          first | exact ⟨_, _, _, rfl, HM.out.sub _ [0, 1, 5, 6] (by decide) rfl⟩ | exact ⟨_, _, _, rfl, HM.out.sub _ [0, 1, 6, 5] (by decide) rfl⟩
        · simp only [List.getElem_toArray, List.getElem_cons_succ, List.getElem_cons_zero]
          refine St.wp_alloc tyH rfl ?_; have HM : Hid _ := HM.out.alloc (.cells hz0 28) rfl; simp only [Act.put, List.setIfInBounds_toArray, List.set_cons_zero, List.set_cons_succ]
          refine Txt.any1 3 (by decide) (by kernel_rfl) (by kernel_rfl) ?_
          simp only [List.getElem_toArray, List.getElem_cons_succ, List.getElem_cons_zero]
          refine Txt.wp_call Tryz.func29 (by kernel_rfl) (by kernel_rfl) rfl (vs := #[.slice none 0 0]) rfl (height_any _ none 0 0 _ (hat (HM.out.get 3 rfl)) (by omega)) ?_; rw [HSG.out]; rintro e w8 ⟨rfl, k8⟩; have HM : Hid _ := HM.out.calm k8; clear k8; refine ⟨_, rfl, ?_⟩; simp only [Act.put, List.setIfInBounds_toArray, List.set_cons_zero, List.set_cons_succ]
          refine wpAny_take (i := 9) (v := .agg (hd (.slice a8 sl.length c8) sg T A Q Z m).toArray) rfl (by kernel_rfl) (by decide +kernel) (by decide +kernel) (fun _ _ _ h => by cases h.1) (Or.inl ⟨by rfl, Txt.ex_build rfl [(0, .slice a8 sl.length c8), (1, .int .i64 sg), (2, .string T), (3, .int .i64 A), (4, .int .i64 Q), (5, .int .i64 Z), (6, idv m)] rfl (fun w => run_bld w _ _ (built_hd a8 sl.length c8 sg T A Q Z m Hm.out))⟩) ?_; simp only [Act.put, List.setIfInBounds_toArray, List.set_cons_zero, List.set_cons_succ]
          refine Txt.any1 11 (by decide) (by kernel_rfl) (by kernel_rfl) ?_
          simp only [List.getElem_toArray, List.getElem_cons_succ, List.getElem_cons_zero]
          first | (refine St.wp_store tyH rfl rfl rfl rfl (cs := (hd (.slice a8 sl.length c8) sg T A Q Z m).toArray) (hd_sz' Hm.out) (hd_one _ _ _ _ _ _ _ _ _) (HM.out.get 6 rfl) rfl ?_; have HM : Hid _ := HM.out.setr 6 rfl (hd (.slice a8 sl.length c8) sg T A Q Z m).toArray) | (refine St.wp_store tyH rfl rfl rfl rfl (cs := (hd (.slice a8 sl.length c8) sg T A Q Z m).toArray) (hd_sz' Hm.out) (hd_one _ _ _ _ _ _ _ _ _) (HM.out.get 5 rfl) rfl ?_; have HM : Hid _ := HM.out.setr 5 rfl (hd (.slice a8 sl.length c8) sg T A Q Z m).toArray)
          refine wpAny_done (by kernel_rfl) ?_ _
          refine ⟨rfl, ?_⟩
          first | exact ⟨_, _, _, rfl, HM.out.sub _ [0, 1, 5, 6] (by decide) rfl⟩ | exact ⟨_, _, _, rfl, HM.out.sub _ [0, 1, 6, 5] (by decide) rfl⟩
      · simp only [List.getElem_toArray, List.getElem_cons_succ, List.getElem_cons_zero]
        refine St.wp_alloc tyH rfl ?_; have HM : Hid _ := HM.out.alloc (.cells hz0 28) rfl; simp only [Act.put, List.setIfInBounds_toArray, List.set_cons_zero, List.set_cons_succ]
        refine Txt.any2 3 8 (by decide) (by decide) (by kernel_rfl) (by kernel_rfl) ?_ ?_
        · simp only [List.getElem_toArray, List.getElem_cons_succ, List.getElem_cons_zero]
          refine Txt.wp_call Tryz.func29 (by kernel_rfl) (by kernel_rfl) rfl (vs := #[.slice none 0 0]) rfl (height_any _ none 0 0 _ (hat (HM.out.get 3 rfl)) (by omega)) ?_; rw [HSG.out]; rintro e w8 ⟨rfl, k8⟩; have HM : Hid _ := HM.out.calm k8; clear k8; refine ⟨_, rfl, ?_⟩; simp only [Act.put, List.setIfInBounds_toArray, List.set_cons_zero, List.set_cons_succ]
          refine Txt.any1 8 (by decide) (by kernel_rfl) (by kernel_rfl) ?_
          simp only [List.getElem_toArray, List.getElem_cons_succ, List.getElem_cons_zero]
          refine Txt.wp_ldN (n := 32) (ty := 24) rfl rfl (HM.out.range 0 rfl) (by kernel_rfl) (by rw [List.length_map]; exact Hm.out) ?_; simp only [Act.put, List.setIfInBounds_toArray, List.set_cons_zero, List.set_cons_succ]
          refine wpAny_take (i := 9) (v := .agg (hd (.slice a8 sl.length c8) sg T A Q Z m).toArray) rfl (by kernel_rfl) (by decide +kernel) (by decide +kernel) (fun _ _ _ h => by cases h.1) (Or.inl ⟨by rfl, Txt.ex_build rfl [(0, .slice a8 sl.length c8), (1, .int .i64 sg), (2, .string T), (3, .int .i64 A), (4, .int .i64 Q), (5, .int .i64 Z), (6, idv m)] rfl (fun w => run_bld w _ _ (built_hd a8 sl.length c8 sg T A Q Z m Hm.out))⟩) ?_; simp only [Act.put, List.setIfInBounds_toArray, List.set_cons_zero, List.set_cons_succ]
          refine Txt.any1 11 (by decide) (by kernel_rfl) (by kernel_rfl) ?_
          simp only [List.getElem_toArray, List.getElem_cons_succ, List.getElem_cons_zero]
          first | (refine St.wp_store tyH rfl rfl rfl rfl (cs := (hd (.slice a8 sl.length c8) sg T A Q Z m).toArray) (hd_sz' Hm.out) (hd_one _ _ _ _ _ _ _ _ _) (HM.out.get 6 rfl) rfl ?_; have HM : Hid _ := HM.out.setr 6 rfl (hd (.slice a8 sl.length c8) sg T A Q Z m).toArray) | (refine St.wp_store tyH rfl rfl rfl rfl (cs := (hd (.slice a8 sl.length c8) sg T A Q Z m).toArray) (hd_sz' Hm.out) (hd_one _ _ _ _ _ _ _ _ _) (HM.out.get 5 rfl) rfl ?_; have HM : Hid _ := HM.out.setr 5 rfl (hd (.slice a8 sl.length c8) sg T A Q Z m).toArray)
          refine wpAny_done (by kernel_rfl) ?_ _
          refine ⟨rfl, ?_⟩
          first | exact ⟨_, _, _, rfl, HM.out.sub _ [0, 1, 5, 6] (by decide) rfl⟩ | exact ⟨_, _, _, rfl, HM.out.sub _ [0, 1, 6, 5] (by decide) rfl⟩
        · simp only [List.getElem_toArray, List.getElem_cons_succ, List.getElem_cons_zero]
          refine Txt.wp_ldN (n := 32) (ty := 24) rfl rfl (HM.out.range 0 rfl) (by kernel_rfl) (by rw [List.length_map]; exact Hm.out) ?_; simp only [Act.put, List.setIfInBounds_toArray, List.set_cons_zero, List.set_cons_succ]
          refine Txt.any1 3 (by decide) (by kernel_rfl) (by kernel_rfl) ?_
          simp only [List.getElem_toArray, List.getElem_cons_succ, List.getElem_cons_zero]
          refine Txt.wp_call Tryz.func29 (by kernel_rfl) (by kernel_rfl) rfl (vs := #[.slice none 0 0]) rfl (height_any _ none 0 0 _ (hat (HM.out.get 3 rfl)) (by omega)) ?_; rw [HSG.out]; rintro e w8 ⟨rfl, k8⟩; have HM : Hid _ := HM.out.calm k8; clear k8; refine ⟨_, rfl, ?_⟩; simp only [Act.put, List.setIfInBounds_toArray, List.set_cons_zero, List.set_cons_succ]
          refine wpAny_take (i := 9) (v := .agg (hd (.slice a8 sl.length c8) sg T A Q Z m).toArray) rfl (by kernel_rfl) (by decide +kernel) (by decide +kernel) (fun _ _ _ h => by cases h.1) (Or.inl ⟨by rfl, Txt.ex_build rfl [(0, .slice a8 sl.length c8), (1, .int .i64 sg), (2, .string T), (3, .int .i64 A), (4, .int .i64 Q), (5, .int .i64 Z), (6, idv m)] rfl (fun w => run_bld w _ _ (built_hd a8 sl.length c8 sg T A Q Z m Hm.out))⟩) ?_; simp only [Act.put, List.setIfInBounds_toArray, List.set_cons_zero, List.set_cons_succ]
          refine Txt.any1 11 (by decide) (by kernel_rfl) (by kernel_rfl) ?_
          simp only [List.getElem_toArray, List.getElem_cons_succ, List.getElem_cons_zero]
          first | (refine St.wp_store tyH rfl rfl rfl rfl (cs := (hd (.slice a8 sl.length c8) sg T A Q Z m).toArray) (hd_sz' Hm.out) (hd_one _ _ _ _ _ _ _ _ _) (HM.out.get 6 rfl) rfl ?_; have HM : Hid _ := HM.out.setr 6 rfl (hd (.slice a8 sl.length c8) sg T A Q Z m).toArray) | (refine St.wp_store tyH rfl rfl rfl rfl (cs := (hd (.slice a8 sl.length c8) sg T A Q Z m).toArray) (hd_sz' Hm.out) (hd_one _ _ _ _ _ _ _ _ _) (HM.out.get 5 rfl) rfl ?_; have HM : Hid _ := HM.out.setr 5 rfl (hd (.slice a8 sl.length c8) sg T A Q Z m).toArray)
          refine wpAny_done (by kernel_rfl) ?_ _
          refine ⟨rfl, ?_⟩
          first | exact ⟨_, _, _, rfl, HM.out.sub _ [0, 1, 5, 6] (by decide) rfl⟩ | exact ⟨_, _, _, rfl, HM.out.sub _ [0, 1, 6, 5] (by decide) rfl⟩
    · simp only [List.getElem_toArray, List.getElem_cons_succ, List.getElem_cons_zero]
      refine Txt.wp_ldN (n := 32) (ty := 24) rfl rfl (HM.out.range 0 rfl) (by kernel_rfl) (by rw [List.length_map]; exact Hm.out) ?_; simp only [Act.put, List.setIfInBounds_toArray, List.set_cons_zero, List.set_cons_succ]
      refine Txt.any2 1 10 (by decide) (by decide) (by kernel_rfl) (by kernel_rfl) ?_ ?_
      · simp only [List.getElem_toArray, List.getElem_cons_succ, List.getElem_cons_zero]
        refine Txt.wp_call Tryz.func28 (by kernel_rfl) (by kernel_rfl) rfl (vs := #[.slice none 0 0]) rfl (set_any _ none 0 0 _ (iat (HM.out.get 4 rfl)) (by omega)) ?_; rw [HSL.out]; rintro e w7 ⟨v7, rfl, n7⟩; obtain ⟨a8, c8, e8, _⟩ := n7.1.at; have HM : Hid _ := HM.out.add (x := ids v7 sl) n7.2.1 n7.1 (fun k hk => ⟨n7.2.2 k hk, n7.1.lt hk⟩); subst e8; clear n7; refine ⟨_, rfl, ?_⟩; simp only [Act.put, List.setIfInBounds_toArray, List.set_cons_zero, List.set_cons_succ]
        refine Txt.any2 3 10 (by decide) (by decide) (by kernel_rfl) (by kernel_rfl) ?_ ?_
        · simp only [List.getElem_toArray, List.getElem_cons_succ, List.getElem_cons_zero]
          refine Txt.wp_call Tryz.func29 (by kernel_rfl) (by kernel_rfl) rfl (vs := #[.slice none 0 0]) rfl (height_any _ none 0 0 _ (hat (HM.out.get 3 rfl)) (by omega)) ?_; rw [HSG.out]; rintro e w8 ⟨rfl, k8⟩; have HM : Hid _ := HM.out.calm k8; clear k8; refine ⟨_, rfl, ?_⟩; simp only [Act.put, List.setIfInBounds_toArray, List.set_cons_zero, List.set_cons_succ]
          refine wpAny_take (i := 9) (v := .agg (hd (.slice a8 sl.length c8) sg T A Q Z m).toArray) rfl (by kernel_rfl) (by decide +kernel) (by decide +kernel) (fun _ _ _ h => by cases h.1) (Or.inl ⟨by rfl, Txt.ex_build rfl [(0, .slice a8 sl.length c8), (1, .int .i64 sg), (2, .string T), (3, .int .i64 A), (4, .int .i64 Q), (5, .int .i64 Z), (6, idv m)] rfl (fun w => run_bld w _ _ (built_hd a8 sl.length c8 sg T A Q Z m Hm.out))⟩) ?_; simp only [Act.put, List.setIfInBounds_toArray, List.set_cons_zero, List.set_cons_succ]
          refine Txt.any1 10 (by decide) (by kernel_rfl) (by kernel_rfl) ?_
          simp only [List.getElem_toArray, List.getElem_cons_succ, List.getElem_cons_zero]
          refine St.wp_alloc tyH rfl ?_; have HM : Hid _ := HM.out.alloc (.cells hz0 28) rfl; simp only [Act.put, List.setIfInBounds_toArray, List.set_cons_zero, List.set_cons_succ]
          refine Txt.any1 11 (by decide) (by kernel_rfl) (by kernel_rfl) ?_
          simp only [List.getElem_toArray, List.getElem_cons_succ, List.getElem_cons_zero]
          first | (refine St.wp_store tyH rfl rfl rfl rfl (cs := (hd (.slice a8 sl.length c8) sg T A Q Z m).toArray) (hd_sz' Hm.out) (hd_one _ _ _ _ _ _ _ _ _) (HM.out.get 6 rfl) rfl ?_; have HM : Hid _ := HM.out.setr 6 rfl (hd (.slice a8 sl.length c8) sg T A Q Z m).toArray) | (refine St.wp_store tyH rfl rfl rfl rfl (cs := (hd (.slice a8 sl.length c8) sg T A Q Z m).toArray) (hd_sz' Hm.out) (hd_one _ _ _ _ _ _ _ _ _) (HM.out.get 5 rfl) rfl ?_; have HM : Hid _ := HM.out.setr 5 rfl (hd (.slice a8 sl.length c8) sg T A Q Z m).toArray)
          refine wpAny_done (by kernel_rfl) ?_ _
          refine ⟨rfl, ?_⟩
          first | exact ⟨_, _, _, rfl, HM.out.sub _ [0, 1, 5, 6] (by decide) rfl⟩ | exact ⟨_, _, _, rfl, HM.out.sub _ [0, 1, 6, 5] (by decide) rfl⟩
        · simp only [List.getElem_toArray, List.getElem_cons_succ, List.getElem_cons_zero]
          refine St.wp_alloc tyH rfl ?_; have HM : Hid _ := HM.out.alloc (.cells hz0 28) rfl; simp only [Act.put, List.setIfInBounds_toArray, List.set_cons_zero, List.set_cons_succ]
          refine Txt.any1 3 (by decide) (by kernel_rfl) (by kernel_rfl) ?_
          simp only [List.getElem_toArray, List.getElem_cons_succ, List.getElem_cons_zero]
          refine Txt.wp_call Tryz.func29 (by kernel_rfl) (by kernel_rfl) rfl (vs := #[.slice none 0 0]) rfl (height_any _ none 0 0 _ (hat (HM.out.get 3 rfl)) (by omega)) ?_; rw [HSG.out]; rintro e w8 ⟨rfl, k8⟩; have HM : Hid _ := HM.out.calm k8; clear k8; refine ⟨_, rfl, ?_⟩; simp only [Act.put, List.setIfInBounds_toArray, List.set_cons_zero, List.set_cons_succ]
          refine wpAny_take (i := 9) (v := .agg (hd (.slice a8 sl.length c8) sg T A Q Z m).toArray) rfl (by kernel_rfl) (by decide +kernel) (by decide +kernel) (fun _ _ _ h => by cases h.1) (Or.inl ⟨by rfl, Txt.ex_build rfl [(0, .slice a8 sl.length c8), (1, .int .i64 sg), (2, .string T), (3, .int .i64 A), (4, .int .i64 Q), (5, .int .i64 Z), (6, idv m)] rfl (fun w => run_bld w _ _ (built_hd a8 sl.length c8 sg T A Q Z m Hm.out))⟩) ?_; simp only [Act.put, List.setIfInBounds_toArray, List.set_cons_zero, List.set_cons_succ]
          refine Txt.any1 11 (by decide) (by kernel_rfl) (by kernel_rfl) ?_
          simp only [List.getElem_toArray, List.getElem_cons_succ, List.getElem_cons_zero]
          first | (refine St.wp_store tyH rfl rfl rfl rfl (cs := (hd (.slice a8 sl.length c8) sg T A Q Z m).toArray) (hd_sz' Hm.out) (hd_one _ _ _ _ _ _ _ _ _) (HM.out.get 6 rfl) rfl ?_; have HM : Hid _ := HM.out.setr 6 rfl (hd (.slice a8 sl.length c8) sg T A Q Z m).toArray) | (refine St.wp_store tyH rfl rfl rfl rfl (cs := (hd (.slice a8 sl.length c8) sg T A Q Z m).toArray) (hd_sz' Hm.out) (hd_one _ _ _ _ _ _ _ _ _) (HM.out.get 5 rfl) rfl ?_; have HM : Hid _ := HM.out.setr 5 rfl (hd (.slice a8 sl.length c8) sg T A Q Z m).toArray)
          refine wpAny_done (by kernel_rfl) ?_ _
          refine ⟨rfl, ?_⟩
          first | exact ⟨_, _, _, rfl, HM.out.sub _ [0, 1, 5, 6] (by decide) rfl⟩ | exact ⟨_, _, _, rfl, HM.out.sub _ [0, 1, 6, 5] (by decide) rfl⟩
      · simp only [List.getElem_toArray, List.getElem_cons_succ, List.getElem_cons_zero]
        refine St.wp_alloc tyH rfl ?_; have HM : Hid _ := HM.out.alloc (.cells hz0 28) rfl; simp only [Act.put, List.setIfInBounds_toArray, List.set_cons_zero, List.set_cons_succ]
        refine Txt.any1 1 (by decide) (by kernel_rfl) (by kernel_rfl) ?_
        simp only [List.getElem_toArray, List.getElem_cons_succ, List.getElem_cons_zero]
        refine Txt.wp_call Tryz.func28 (by kernel_rfl) (by kernel_rfl) rfl (vs := #[.slice none 0 0]) rfl (set_any _ none 0 0 _ (iat (HM.out.get 4 rfl)) (by omega)) ?_; rw [HSL.out]; rintro e w7 ⟨v7, rfl, n7⟩; obtain ⟨a8, c8, e8, _⟩ := n7.1.at; have HM : Hid _ := HM.out.add (x := ids v7 sl) n7.2.1 n7.1 (fun k hk => ⟨n7.2.2 k hk, n7.1.lt hk⟩); subst e8; clear n7; refine ⟨_, rfl, ?_⟩; simp only [Act.put, List.setIfInBounds_toArray, List.set_cons_zero, List.set_cons_succ]
        refine Txt.any1 3 (by decide) (by kernel_rfl) (by kernel_rfl) ?_
        simp only [List.getElem_toArray, List.getElem_cons_succ, List.getElem_cons_zero]
        refine Txt.wp_call Tryz.func29 (by kernel_rfl) (by kernel_rfl) rfl (vs := #[.slice none 0 0]) rfl (height_any _ none 0 0 _ (hat (HM.out.get 3 rfl)) (by omega)) ?_; rw [HSG.out]; rintro e w8 ⟨rfl, k8⟩; have HM : Hid _ := HM.out.calm k8; clear k8; refine ⟨_, rfl, ?_⟩; simp only [Act.put, List.setIfInBounds_toArray, List.set_cons_zero, List.set_cons_succ]
        refine wpAny_take (i := 9) (v := .agg (hd (.slice a8 sl.length c8) sg T A Q Z m).toArray) rfl (by kernel_rfl) (by decide +kernel) (by decide +kernel) (fun _ _ _ h => by cases h.1) (Or.inl ⟨by rfl, Txt.ex_build rfl [(0, .slice a8 sl.length c8), (1, .int .i64 sg), (2, .string T), (3, .int .i64 A), (4, .int .i64 Q), (5, .int .i64 Z), (6, idv m)] rfl (fun w => run_bld w _ _ (built_hd a8 sl.length c8 sg T A Q Z m Hm.out))⟩) ?_; simp only [Act.put, List.setIfInBounds_toArray, List.set_cons_zero, List.set_cons_succ]
        refine Txt.any1 11 (by decide) (by kernel_rfl) (by kernel_rfl) ?_
        simp only [List.getElem_toArray, List.getElem_cons_succ, List.getElem_cons_zero]
        first | (refine St.wp_store tyH rfl rfl rfl rfl (cs := (hd (.slice a8 sl.length c8) sg T A Q Z m).toArray) (hd_sz' Hm.out) (hd_one _ _ _ _ _ _ _ _ _) (HM.out.get 6 rfl) rfl ?_; have HM : Hid _ := HM.out.setr 6 rfl (hd (.slice a8 sl.length c8) sg T A Q Z m).toArray) | (refine St.wp_store tyH rfl rfl rfl rfl (cs := (hd (.slice a8 sl.length c8) sg T A Q Z m).toArray) (hd_sz' Hm.out) (hd_one _ _ _ _ _ _ _ _ _) (HM.out.get 5 rfl) rfl ?_; have HM : Hid _ := HM.out.setr 5 rfl (hd (.slice a8 sl.length c8) sg T A Q Z m).toArray)
        refine wpAny_done (by kernel_rfl) ?_ _
        refine ⟨rfl, ?_⟩
        first | exact ⟨_, _, _, rfl, HM.out.sub _ [0, 1, 5, 6] (by decide) rfl⟩ | exact ⟨_, _, _, rfl, HM.out.sub _ [0, 1, 6, 5] (by decide) rfl⟩
    · simp only [List.getElem_toArray, List.getElem_cons_succ, List.getElem_cons_zero]
      refine St.wp_alloc tyH rfl ?_; have HM : Hid _ := HM.out.alloc (.cells hz0 28) rfl; simp only [Act.put, List.setIfInBounds_toArray, List.set_cons_zero, List.set_cons_succ]
      refine Txt.any2 1 8 (by decide) (by decide) (by kernel_rfl) (by kernel_rfl) ?_ ?_
      · simp only [List.getElem_toArray, List.getElem_cons_succ, List.getElem_cons_zero]
        refine Txt.wp_call Tryz.func28 (by kernel_rfl) (by kernel_rfl) rfl (vs := #[.slice none 0 0]) rfl (set_any _ none 0 0 _ (iat (HM.out.get 4 rfl)) (by omega)) ?_; rw [HSL.out]; rintro e w7 ⟨v7, rfl, n7⟩; obtain ⟨a8, c8, e8, _⟩ := n7.1.at; have HM : Hid _ := HM.out.add (x := ids v7 sl) n7.2.1 n7.1 (fun k hk => ⟨n7.2.2 k hk, n7.1.lt hk⟩); subst e8; clear n7; refine ⟨_, rfl, ?_⟩; simp only [Act.put, List.setIfInBounds_toArray, List.set_cons_zero, List.set_cons_succ]
        refine Txt.any2 3 8 (by decide) (by decide) (by kernel_rfl) (by kernel_rfl) ?_ ?_
        · simp only [List.getElem_toArray, List.getElem_cons_succ, List.getElem_cons_zero]
          refine Txt.wp_call Tryz.func29 (by kernel_rfl) (by kernel_rfl) rfl (vs := #[.slice none 0 0]) rfl (height_any _ none 0 0 _ (hat (HM.out.get 3 rfl)) (by omega)) ?_; rw [HSG.out]; rintro e w8 ⟨rfl, k8⟩; have HM : Hid _ := HM.out.calm k8; clear k8; refine ⟨_, rfl, ?_⟩; simp only [Act.put, List.setIfInBounds_toArray, List.set_cons_zero, List.set_cons_succ]
          refine Txt.any1 8 (by decide) (by kernel_rfl) (by kernel_rfl) ?_
          simp only [List.getElem_toArray, List.getElem_cons_succ, List.getElem_cons_zero]
          refine Txt.wp_ldN (n := 32) (ty := 24) rfl rfl (HM.out.range 0 rfl) (by kernel_rfl) (by rw [List.length_map]; exact Hm.out) ?_; simp only [Act.put, List.setIfInBounds_toArray, List.set_cons_zero, List.set_cons_succ]
          refine wpAny_take (i := 9) (v := .agg (hd (.slice a8 sl.length c8) sg T A Q Z m).toArray) rfl (by kernel_rfl) (by decide +kernel) (by decide +kernel) (fun _ _ _ h => by cases h.1) (Or.inl ⟨by rfl, Txt.ex_build rfl [(0, .slice a8 sl.length c8), (1, .int .i64 sg), (2, .string T), (3, .int .i64 A), (4, .int .i64 Q), (5, .int .i64 Z), (6, idv m)] rfl (fun w => run_bld w _ _ (built_hd a8 sl.length c8 sg T A Q Z m Hm.out))⟩) ?_; simp only [Act.put, List.setIfInBounds_toArray, List.set_cons_zero, List.set_cons_succ]
          refine Txt.any1 11 (by decide) (by kernel_rfl) (by kernel_rfl) ?_
          simp only [List.getElem_toArray, List.getElem_cons_succ, List.getElem_cons_zero]
          first | (refine St.wp_store tyH rfl rfl rfl rfl (cs := (hd (.slice a8 sl.length c8) sg T A Q Z m).toArray) (hd_sz' Hm.out) (hd_one _ _ _ _ _ _ _ _ _) (HM.out.get 6 rfl) rfl ?_; have HM : Hid _ := HM.out.setr 6 rfl (hd (.slice a8 sl.length c8) sg T A Q Z m).toArray) | (refine St.wp_store tyH rfl rfl rfl rfl (cs := (hd (.slice a8 sl.length c8) sg T A Q Z m).toArray) (hd_sz' Hm.out) (hd_one _ _ _ _ _ _ _ _ _) (HM.out.get 5 rfl) rfl ?_; have HM : Hid _ := HM.out.setr 5 rfl (hd (.slice a8 sl.length c8) sg T A Q Z m).toArray)
          refine wpAny_done (by kernel_rfl) ?_ _
          refine ⟨rfl, ?_⟩
          first | exact ⟨_, _, _, rfl, HM.out.sub _ [0, 1, 5, 6] (by decide) rfl⟩ | exact ⟨_, _, _, rfl, HM.out.sub _ [0, 1, 6, 5] (by decide) rfl⟩
        · simp only [List.getElem_toArray, List.getElem_cons_succ, List.getElem_cons_zero]
          refine Txt.wp_ldN (n := 32) (ty := 24) rfl rfl (HM.out.range 0 rfl) (by kernel_rfl) (by rw [List.length_map]; exact Hm.out) ?_; simp only [Act.put, List.setIfInBounds_toArray, List.set_cons_zero, List.set_cons_succ]
          refine Txt.any1 3 (by decide) (by kernel_rfl) (by kernel_rfl) ?_
          simp only [List.getElem_toArray, List.getElem_cons_succ, List.getElem_cons_zero]
          refine Txt.wp_call Tryz.func29 (by kernel_rfl) (by kernel_rfl) rfl (vs := #[.slice none 0 0]) rfl (height_any _ none 0 0 _ (hat (HM.out.get 3 rfl)) (by omega)) ?_; rw [HSG.out]; rintro e w8 ⟨rfl, k8⟩; have HM : Hid _ := HM.out.calm k8; clear k8; refine ⟨_, rfl, ?_⟩; simp only [Act.put, List.setIfInBounds_toArray, List.set_cons_zero, List.set_cons_succ]
          refine wpAny_take (i := 9) (v := .agg (hd (.slice a8 sl.length c8) sg T A Q Z m).toArray) rfl (by kernel_rfl) (by decide +kernel) (by decide +kernel) (fun _ _ _ h => by cases h.1) (Or.inl ⟨by rfl, Txt.ex_build rfl [(0, .slice a8 sl.length c8), (1, .int .i64 sg), (2, .string T), (3, .int .i64 A), (4, .int .i64 Q), (5, .int .i64 Z), (6, idv m)] rfl (fun w => run_bld w _ _ (built_hd a8 sl.length c8 sg T A Q Z m Hm.out))⟩) ?_; simp only [Act.put, List.setIfInBounds_toArray, List.set_cons_zero, List.set_cons_succ]
          refine Txt.any1 11 (by decide) (by kernel_rfl) (by kernel_rfl) ?_
          simp only [List.getElem_toArray, List.getElem_cons_succ, List.getElem_cons_zero]
          first | (refine St.wp_store tyH rfl rfl rfl rfl (cs := (hd (.slice a8 sl.length c8) sg T A Q Z m).toArray) (hd_sz' Hm.out) (hd_one _ _ _ _ _ _ _ _ _) (HM.out.get 6 rfl) rfl ?_; have HM : Hid _ := HM.out.setr 6 rfl (hd (.slice a8 sl.length c8) sg T A Q Z m).toArray) | (refine St.wp_store tyH rfl rfl rfl rfl (cs := (hd (.slice a8 sl.length c8) sg T A Q Z m).toArray) (hd_sz' Hm.out) (hd_one _ _ _ _ _ _ _ _ _) (HM.out.get 5 rfl) rfl ?_; have HM : Hid _ := HM.out.setr 5 rfl (hd (.slice a8 sl.length c8) sg T A Q Z m).toArray)
          refine wpAny_done (by kernel_rfl) ?_ _
          refine ⟨rfl, ?_⟩
          first | exact ⟨_, _, _, rfl, HM.out.sub _ [0, 1, 5, 6] (by decide) rfl⟩ | exact ⟨_, _, _, rfl, HM.out.sub _ [0, 1, 6, 5] (by decide) rfl⟩
      · simp only [List.getElem_toArray, List.getElem_cons_succ, List.getElem_cons_zero]
        refine Txt.wp_ldN (n := 32) (ty := 24) rfl rfl (HM.out.range 0 rfl) (by kernel_rfl) (by rw [List.length_map]; exact Hm.out) ?_; simp only [Act.put, List.setIfInBounds_toArray, List.set_cons_zero, List.set_cons_succ]
        refine Txt.any1 1 (by decide) (by kernel_rfl) (by kernel_rfl) ?_
        simp only [List.getElem_toArray, List.getElem_cons_succ, List.getElem_cons_zero]
        refine Txt.wp_call Tryz.func28 (by kernel_rfl) (by kernel_rfl) rfl (vs := #[.slice none 0 0]) rfl (set_any _ none 0 0 _ (iat (HM.out.get 4 rfl)) (by omega)) ?_; rw [HSL.out]; rintro e w7 ⟨v7, rfl, n7⟩; obtain ⟨a8, c8, e8, _⟩ := n7.1.at; have HM : Hid _ := HM.out.add (x := ids v7 sl) n7.2.1 n7.1 (fun k hk => ⟨n7.2.2 k hk, n7.1.lt hk⟩); subst e8; clear n7; refine ⟨_, rfl, ?_⟩; simp only [Act.put, List.setIfInBounds_toArray, List.set_cons_zero, List.set_cons_succ]
        refine Txt.any1 3 (by decide) (by kernel_rfl) (by kernel_rfl) ?_
        simp only [List.getElem_toArray, List.getElem_cons_succ, List.getElem_cons_zero]
        refine Txt.wp_call Tryz.func29 (by kernel_rfl) (by kernel_rfl) rfl (vs := #[.slice none 0 0]) rfl (height_any _ none 0 0 _ (hat (HM.out.get 3 rfl)) (by omega)) ?_; rw [HSG.out]; rintro e w8 ⟨rfl, k8⟩; have HM : Hid _ := HM.out.calm k8; clear k8; refine ⟨_, rfl, ?_⟩; simp only [Act.put, List.setIfInBounds_toArray, List.set_cons_zero, List.set_cons_succ]
        refine wpAny_take (i := 9) (v := .agg (hd (.slice a8 sl.length c8) sg T A Q Z m).toArray) rfl (by kernel_rfl) (by decide +kernel) (by decide +kernel) (fun _ _ _ h => by cases h.1) (Or.inl ⟨by rfl, Txt.ex_build rfl [(0, .slice a8 sl.length c8), (1, .int .i64 sg), (2, .string T), (3, .int .i64 A), (4, .int .i64 Q), (5, .int .i64 Z), (6, idv m)] rfl (fun w => run_bld w _ _ (built_hd a8 sl.length c8 sg T A Q Z m Hm.out))⟩) ?_; simp only [Act.put, List.setIfInBounds_toArray, List.set_cons_zero, List.set_cons_succ]
        refine Txt.any1 11 (by decide) (by kernel_rfl) (by kernel_rfl) ?_
        simp only [List.getElem_toArray, List.getElem_cons_succ, List.getElem_cons_zero]
        first | (refine St.wp_store tyH rfl rfl rfl rfl (cs := (hd (.slice a8 sl.length c8) sg T A Q Z m).toArray) (hd_sz' Hm.out) (hd_one _ _ _ _ _ _ _ _ _) (HM.out.get 6 rfl) rfl ?_; have HM : Hid _ := HM.out.setr 6 rfl (hd (.slice a8 sl.length c8) sg T A Q Z m).toArray) | (refine St.wp_store tyH rfl rfl rfl rfl (cs := (hd (.slice a8 sl.length c8) sg T A Q Z m).toArray) (hd_sz' Hm.out) (hd_one _ _ _ _ _ _ _ _ _) (HM.out.get 5 rfl) rfl ?_; have HM : Hid _ := HM.out.setr 5 rfl (hd (.slice a8 sl.length c8) sg T A Q Z m).toArray)
        refine wpAny_done (by kernel_rfl) ?_ _
        refine ⟨rfl, ?_⟩
        first | exact ⟨_, _, _, rfl, HM.out.sub _ [0, 1, 5, 6] (by decide) rfl⟩ | exact ⟨_, _, _, rfl, HM.out.sub _ [0, 1, 6, 5] (by decide) rfl⟩
  rintro a' w' ⟨a8, c8, b20, rfl, hM⟩
  have HM : Hid _ := hM.out
  clear hM
  simp only [Act.put, List.setIfInBounds_toArray, List.set_cons_zero, List.set_cons_succ]
  obtain ⟨v, hv⟩ : ∃ v, ck sl.length sl sg T A Q Z = v := ⟨_, rfl⟩
  have Hv : Hid (ck sl.length sl sg T A Q Z = v) := hv
  have HC2 : Hid (∀ w', At w' a8 sl.length sl → Calls Tryz.prog 30 #[.agg (hd (.slice a8 sl.length c8) sg T A Q Z m).toArray] w' fun e w'' => e = .returned (.int .i64 v) ∧ Keep (fun _ => False) w' w'') := fun w' h => by rw [← hv]; exact HCk.out w' sl.length a8 c8 sl sg h (by have := Hsn.out; omega)
  clear hv
  by_cases h0 : v = 0
  · subst h0
    go_wp2_with (first | ((with_reducible refine at_load 28 ?_); refine St.wl_load tyH (by rfl) rfl rfl (HM.out.range 3 rfl) (hd_len _ _ _ _ _ _ _ Hm.out) ?_; simp only [Act.put, List.setIfInBounds_toArray, List.set_cons_zero, List.set_cons_succ]) | (go_at_call 30; refine (HC2.out _ (iat (HM.out.get 2 rfl))).mono ?_; rintro e w9 ⟨rfl, k9⟩; have HM : Hid _ := HM.out.calm k9; clear k9) | (refine St.wl_store tyH rfl rfl rfl rfl rfl (cs := (hd (.slice a8 sl.length c8) sg T A Q Z m).toArray) (hd_sz' Hm.out) (hd_one _ _ _ _ _ _ _ _ _) (HM.out.get 1 rfl) rfl ?_; have HM : Hid _ := HM.out.setr 1 rfl (hd (.slice a8 sl.length c8) sg T A Q Z m).toArray))
    refine bodyPost_ret (St.res2 tyH rfl _ _ _ (hd (.slice a8 sl.length c8) sg T A Q Z m).toArray (hd_sz' Hm.out) rfl (HM.out.get 1 rfl) _ rfl) rfl ?_
    refine .inr ⟨HB.out, .inr ?_⟩
    rw [Hsg.out, Hsl.out]
    exact ⟨Hv.out, a8, c8, rfl, newOf HM.out 2 rfl⟩
  · have h1 : (v != 0) = true := by simpa using h0
    have H0 : Hid (v ≠ 0) := h0
    clear h0
    go_wp2_with (first | ((with_reducible refine at_load 28 ?_); refine St.wl_load tyH (by rfl) rfl rfl (HM.out.range 3 rfl) (hd_len _ _ _ _ _ _ _ Hm.out) ?_; simp only [Act.put, List.setIfInBounds_toArray, List.set_cons_zero, List.set_cons_succ]) | (go_at_call 30; refine (HC2.out _ (iat (HM.out.get 2 rfl))).mono ?_; rintro e w9 ⟨rfl, k9⟩; have HM : Hid _ := HM.out.calm k9; clear k9) | (refine St.wl_buildV (T := 28) (parts := #[]) rfl rfl (cs := hz0) (by kernel_rfl) ?_; simp only [Act.put, List.setIfInBounds_toArray, List.set_cons_zero, List.set_cons_succ]) | (refine St.wl_store tyH rfl rfl rfl rfl rfl (cs := hz0) rfl (hd_one _ _ _ _ _ _ _ _ _) (HM.out.get 1 rfl) rfl ?_; have HM : Hid _ := HM.out.setr 1 rfl hz0))
    refine bodyPost_ret (St.res2 tyH rfl _ _ _ hz0 rfl rfl (HM.out.get 1 rfl) _ rfl) rfl ?_
    refine .inr ⟨HB.out, .inl ?_⟩
    rw [Hsg.out, Hsl.out, Hv.out]
    exact ⟨H0.out, rfl, HM.out.keep⟩
theorem next_any (w : World) (hF : Sha.TabF w) (hKt : Sha.TabK w) (a : Option Addr) (n c : Nat) (K : List Hh) (hA : St.At 38 he w a n K) (hk : ∀ x ∈ K, Hok w x) (hn : n ≤ 20) (T : ByteArray) (A Q Z : Int) (m : List UInt8) (hm : m.length = 32) (hT : T.size ≤ maxLen) :
    Calls Tryz.prog 8 #[.slice a n c, .string T, .int .i64 A, .int .i64 Q, .int .i64 Z, idv m] w (NextPost w K T A Q Z m) := by
  cases hb : bad K with
  | some v => exact next_bad w hF hKt a n c K hA hk hn T A Q Z m v hb
  | none =>
    rcases Nat.eq_zero_or_pos n with h0 | h0
    · subst h0
      have : K = [] := List.eq_nil_of_length_eq_zero hA.len
      subst this
      exact next_nil w a c T A Q Z m hm hT
    · exact next_good w hF hKt a n c K hA hk hn T A Q Z m hm hT hb h0
/-- What holds of a header that came in. -/
def Hin (w : World) (x : Hh) : Prop := At w x.a x.n x.l ∧ x.T.size ≤ maxLen
structure MuchPost (w : World) (h : Hh) (n : Nat) (K : List Hh) (e : Ending) (w' : World) : Prop where
  ex : ∃ p, e = .returned (.bool p) ∧ Keep (fun _ => False) w w' ∧ (p = false → n ≤ 20 ∧ h.n ≤ 20 ∧ h.T.size ≤ 100 ∧ ∀ x ∈ K, x.n ≤ 20 ∧ x.T.size ≤ 100)
set_option maxRecDepth 100000 in
set_option maxHeartbeats 2000000 in
theorem much_any (w : World) (h : Hh) (hh : Hin w h) (a : Option Addr) (n c : Nat) (K : List Hh) (hA : St.At 38 he w a n K) (hk : ∀ x ∈ K, Hin w x) :
    Calls Tryz.prog 6 #[.agg (he h).toArray, .slice a n c] w (MuchPost w h n K) := by
  have HA : Hid (St.At 38 he w a n K) := hA
  have HK : Hid (∀ x ∈ K, Hin w x) := hk
  have hnm := hA.most
  unfold maxLen at hnm
  have HM : Hid (M (fun _ => False) w _ [blk w.heap.size (.cells (he h).toArray 28)]) := (M.start _ w).alloc (.cells (he h).toArray 28) rfl
  have Hc0 : Hid ((he h).toArray[0]? = some (.slice h.a h.n h.c)) := (rfl : _ = _)
  have Hc2 : Hid ((he h).toArray[2]? = some (.string h.T)) := (rfl : _ = _)
  have hpn := hh.1.most
  have hpT := hh.2
  unfold maxLen at hpT hpn
  clear hA hk hh
  go_enter Tryz.func6, Tryz.ntmps6
  go_wp2
  go_loopw [5] (fun i wr => ∃ (k : Nat), k ≤ n ∧ k ≤ 20 ∧ i = .int .i64 k ∧ (∀ (j : Nat) (y : Hh), j < k → K[j]? = some y → y.n ≤ 20 ∧ y.T.size ≤ 100) ∧ M (fun _ => False) w wr [blk w.heap.size (.cells (he h).toArray 28)]) (fun i _ => 20 - (intOf i).toNat)
  case atStart => exact ⟨0, Nat.zero_le _, Nat.zero_le _, rfl, fun j y hj => absurd hj (Nat.not_lt_zero _), HM.out⟩
  case round =>
    clear HM
    obtain ⟨k, hkn, hk20, rfl, hno, hM⟩ := hrel
    have HM : Hid _ := hM
    have HNo : Hid (∀ (j : Nat) (y : Hh), j < k → K[j]? = some y → y.n ≤ 20 ∧ y.T.size ≤ 100) := hno
    clear hM hno
    by_cases hlt : k < n ∧ k < 20
    · obtain ⟨hlt, hlt2⟩ := hlt
      obtain ⟨x, hx⟩ : ∃ x, K[k]? = some x := ⟨_, List.getElem?_eq_getElem (by rw [HA.out.len]; exact hlt)⟩
      obtain ⟨b1, o1, rfl, hb1, hr1⟩ : ∃ b off, a = some ⟨b, off, none⟩ ∧ b < w.heap.size ∧ ∀ i x, K[i]? = some x → w.rangeAt b (off + i * 38) (he x) := by rcases HA.out.lay with e | e; omega; exact e
      have R1 := HM.out.keep.range hb1 (fun h => h) (hr1 k x hx)
      have d0 : wr.cell? ⟨b1, o1 + k * 38, none⟩ = some (.slice x.a x.n x.c) := R1 0 _ rfl
      have d2 : wr.cell? ⟨b1, o1 + k * 38 + 2, none⟩ = some (.string x.T) := R1 2 _ rfl
      have Hx : Hid (K[k]? = some x) := hx
      have hok := HK.out x (List.mem_of_getElem? hx)
      have hxn := hok.1.most
      have hxT := hok.2
      unfold maxLen at hxT hxn
      obtain ⟨xa, hxa⟩ : ∃ t, x.a = t := ⟨_, rfl⟩
      obtain ⟨xn, hxn'⟩ : ∃ t, x.n = t := ⟨_, rfl⟩
      obtain ⟨xc, hxc⟩ : ∃ t, x.c = t := ⟨_, rfl⟩
      obtain ⟨xT, hxT'⟩ : ∃ t, x.T = t := ⟨_, rfl⟩
      rw [hxa, hxn', hxc] at d0
      rw [hxT'] at d2 hxT
      rw [hxn'] at hxn
      have Hn : Hid (x.n = xn) := hxn'
      have HT : Hid (x.T = xT) := hxT'
      clear hr1 R1 hx hb1 hok hxa hxn' hxc hxT'
      by_cases h1 : 20 < xn
      · go_wp2
        go_ret
        exact ⟨true, rfl, HM.out.keep, fun h => by cases h⟩
      · by_cases h2 : 100 < xT.size
        · go_wp2
          go_ret
          exact ⟨true, rfl, HM.out.keep, fun h => by cases h⟩
        · go_wp2
          go_roundw
          case rel =>
            refine ⟨k + 1, by omega, by omega, rfl, fun j y hj hy => ?_, HM.out⟩
            rcases Nat.lt_or_ge j k with h | h
            · exact HNo.out j y h hy
            · obtain rfl : j = k := by omega
              rw [Hx.out] at hy
              cases hy
              rw [Hn.out, HT.out]
              omega
          case measure => simp [intOf]; omega
    · have HE : Hid (n ≤ 20 → ∀ x ∈ K, x.n ≤ 20 ∧ x.T.size ≤ 100) := fun hn x hx => by
        obtain ⟨j, hj⟩ := List.getElem?_of_mem hx
        exact HNo.out j x (by have := (List.getElem?_eq_some_iff.1 hj).1; rw [HA.out.len] at this; omega) hj
      have c0 := HM.out.cell 0 rfl 0 Hc0.out
      have c2 := HM.out.cell 0 rfl 2 Hc2.out
      obtain ⟨pa, hpa⟩ : ∃ t, h.a = t := ⟨_, rfl⟩
      obtain ⟨pn, hpn'⟩ : ∃ t, h.n = t := ⟨_, rfl⟩
      obtain ⟨pc, hpc⟩ : ∃ t, h.c = t := ⟨_, rfl⟩
      obtain ⟨pT, hpT'⟩ : ∃ t, h.T = t := ⟨_, rfl⟩
      rw [hpa, hpn', hpc] at c0
      rw [hpT'] at c2 hpT
      rw [hpn'] at hpn
      have HPn : Hid (h.n = pn) := hpn'
      have HPT : Hid (h.T = pT) := hpT'
      clear hpa hpn' hpc hpT'
      have hcs : n ≤ k ∨ (k < n ∧ 20 ≤ k) := by omega
      clear hlt
      rcases hcs with h1 | ⟨h1, h2⟩
      all_goals
        go_wp2
        all_goals
          go_ret
          refine ⟨_, rfl, HM.out.keep, fun hq => ?_⟩
          (try simp at hq)
          all_goals exact ⟨by omega, by rw [HPn.out]; omega, by rw [HPT.out]; omega, HE.out (by omega)⟩
end Nx
end Go.Proofs.YtgllkfolckbdhaaGreatDoor
