/-
  'petrellaw07.OpPuts': any operation is put, checked and compared as the document says. For every input.
-/
import Derived.Test.YtfoplimdbapdfaaDoorOpReads
set_option linter.unusedVariables false
set_option linter.unusedSimpArgs false
namespace Go.Proofs.YtfoplimdbapdfaaDoor
open Go.RowKit
namespace OpPuts
open Oct Ids Ox Go.ChangeShapes Go.WideShapes Go.ChangeAt
open Go.ChangeMaps (open_string shut_string)
open Mem (M blk)

/-- The two operations, in memory. -/
structure TS (w wr : World) (K N K2 N2 : Int) (Y V Y2 V2 : ByteArray) (r r2 : List UInt8) (a a2 : Option Addr) (n c n2 c2 : Nat) (l l2 : List (List UInt8)) : Prop where
  o1 : OAt wr w.heap.size K N Y V r (.slice a n c)
  o2 : OAt wr (w.heap.size + 1) K2 N2 Y2 V2 r2 (.slice a2 n2 c2)
  a1 : At wr a n l
  a2 : At wr a2 n2 l2
  tab : TabP wr
  keep : Keep (fun _ => False) w wr
section
variable {w wr : World} {K N K2 N2 : Int} {Y V Y2 V2 : ByteArray} {r r2 : List UInt8} {a a2 : Option Addr} {n c n2 c2 : Nat} {l l2 : List (List UInt8)}
theorem TS.calm (h : TS w wr K N K2 N2 Y V Y2 V2 r r2 a a2 n c n2 c2 l l2) {w' : World} (k : Keep (fun _ => False) wr w') : TS w w' K N K2 N2 Y V Y2 V2 r r2 a a2 n c n2 c2 l l2 :=
  ⟨h.o1.calm k, h.o2.calm k, h.a1.calm k, h.a2.calm k, h.tab.calm k, h.keep.trans k⟩
theorem TS.start (hr : r.length = 32) (hr2 : r2.length = 32) (h1 : At w a n l) (h2 : At w a2 n2 l2) (hT : TabP w) : TS w ((w.alloc (.cells (oc K N Y V r (.slice a n c)).toArray 27)).alloc (.cells (oc K2 N2 Y2 V2 r2 (.slice a2 n2 c2)).toArray 27)) K N K2 N2 Y V Y2 V2 r r2 a a2 n c n2 c2 l l2 := by
  have k : Keep (fun _ => False) w ((w.alloc (.cells (oc K N Y V r (.slice a n c)).toArray 27)).alloc (.cells (oc K2 N2 Y2 V2 r2 (.slice a2 n2 c2)).toArray 27)) := ((Keep.refl _ _).alloc _).alloc _
  refine ⟨(OAt.new w hr).calm ((Keep.refl _ _).alloc _), ?_, h1.calm k, h2.calm k, hT.calm k, k⟩
  have := OAt.new (K := K2) (N := N2) (Y := Y2) (V := V2) (rv := .slice a2 n2 c2) (w.alloc (.cells (oc K N Y V r (.slice a n c)).toArray 27)) hr2
  rwa [World.size_alloc] at this
end
set_option maxHeartbeats 8000000 in
set_option maxRecDepth 100000 in
theorem walk (K N K2 N2 : Int) (Y V Y2 V2 : ByteArray) (r r2 : List UInt8) (a a2 : Option Addr) (n c n2 c2 : Nat) (l l2 : List (List UInt8)) (w : World) (hT : TabP w) (hr : r.length = 32) (hr2 : r2.length = 32) (h1 : At w a n l) (h2 : At w a2 n2 l2) :
    Calls Tryd.prog 5 #[.agg (oc K N Y V r (.slice a n c)).toArray, .agg (oc K2 N2 Y2 V2 r2 (.slice a2 n2 c2)).toArray] w fun e w' => e = .returned (.bool true) ∧ Below w.heap.size w w' := by
  have HS : Hid _ := TS.start (K := K) (N := N) (K2 := K2) (N2 := N2) (Y := Y) (V := V) (Y2 := Y2) (V2 := V2) (c := c) (c2 := c2) hr hr2 h1 h2 hT
  have Hr : Hid (r.length = 32) := hr
  have Hr2 : Hid (r2.length = 32) := hr2
  obtain ⟨v, hv⟩ : ∃ v, sm K N Y V r l K2 N2 Y2 V2 r2 l2 = v := ⟨_, rfl⟩
  obtain ⟨p, hp⟩ : ∃ p, pv K N Y V r n l = p := ⟨_, rfl⟩
  obtain ⟨q, hq⟩ : ∃ q, ck K N Y V r n l = q := ⟨_, rfl⟩
  obtain ⟨b, hb⟩ : ∃ b, bl K = b := ⟨_, rfl⟩
  have Hv : Hid _ := hv
  have Hp : Hid _ := hp
  have Hq : Hid _ := hq
  have Hb : Hid _ := hb
  have hm1 := h1.most
  have hm2 := h2.most
  unfold maxLen at hm1 hm2
  obtain ⟨g0, g1, g2, g3, g36⟩ := HS.out.o1.cells
  obtain ⟨q0, q1, q2, q3, q36⟩ := HS.out.o2.cells
  clear hv hp hq hb hr hr2 h1 h2 hT
  generalize hX : (oc K N Y V r (.slice a n c)).toArray = X at HS g0 g1 g2 g3 g36 q0 q1 q2 q3 q36 ⊢
  generalize hX2 : (oc K2 N2 Y2 V2 r2 (.slice a2 n2 c2)).toArray = X2 at HS g0 g1 g2 g3 g36 q0 q1 q2 q3 q36 ⊢
  have HX : Hid _ := hX
  have HX2 : Hid _ := hX2
  clear hX hX2
  by_cases hgo : n ≤ 60 ∧ n2 ≤ 60
  · obtain ⟨g60, g61⟩ := hgo
    go_enter Tryd.func5, Tryd.ntmps5
    go_wp2_with (first | ((with_reducible refine at_load 27 ?_); refine St.wl_load tyO (by rfl) rfl rfl HS.out.o1.all (oc_len _ _ _ _ _ _ Hr.out) ?_; simp only [Act.put, List.setIfInBounds_toArray, List.set_cons_zero, List.set_cons_succ]) | (go_at_call 15; refine (put_any _ HS.out.tab K N Y V r a n c l Hr.out HS.out.a1).mono ?_; rw [Hp.out, Hq.out]; rintro e w1 ⟨rfl, k1⟩; have HS : Hid _ := HS.out.calm k1; clear k1; obtain ⟨g0, g1, g2, g3, g36⟩ := HS.out.o1.cells; obtain ⟨q0, q1, q2, q3, q36⟩ := HS.out.o2.cells) | (go_at_call 16; refine (rput_any _ K N Y V r a n c l Hr.out HS.out.a1).mono ?_; rw [Hp.out, Hq.out]; rintro e w2 ⟨rfl, k1⟩; have HS : Hid _ := HS.out.calm k1; clear k1; obtain ⟨g0, g1, g2, g3, g36⟩ := HS.out.o1.cells; obtain ⟨q0, q1, q2, q3, q36⟩ := HS.out.o2.cells))
    refine Txt.wp_region_text (fun w' => TS w w' K N K2 N2 Y V Y2 V2 r r2 a a2 n c n2 c2 l l2) [0, 0, 0, 0, 0, 0, 0, 0, 0, 1, 4, 2, 4, 0, 0, 0, 1, 1, 4, 2, 2, 4, 0, 0, 0, 1, 1, 4, 0, 0, 0, 1, 4, 0, 2, 4, 0, 0, 0, 4, 0, 0] (by kernel_rfl) (by kernel_rfl) (HS.out.calm (Keep.refl _ _).drew) ?_
    have HS : Hid _ := HS.out.calm (Keep.refl _ _).drew
    clear g0 g1 g2 g3 g36 q0 q1 q2 q3 q36
    (repeat (first | (refine Txt.tl_pure (v := ?_) (by rfl) ?_ ?_; rotate_left; (focus (intro _; go_simp; try with_reducible rfl)); simp only [Act.put, List.setIfInBounds_toArray, List.set_cons_zero, List.set_cons_succ]) | (refine Txt.tl_skip (by rfl) HS.out ?_; simp only [Act.put, List.setIfInBounds_toArray, List.set_cons_zero, List.set_cons_succ]) | (refine Txt.tl_rowSN (n := 37) (ty := 27) (by rfl) (by rfl) (by rfl) (fun _ h => h.o1.all) (by kernel_rfl) (oc_len _ _ _ _ _ _ Hr.out) ?_; simp only [Act.put, List.setIfInBounds_toArray, List.set_cons_zero, List.set_cons_succ]) | (refine Txt.tl_rowSN (n := 37) (ty := 27) (by rfl) (by rfl) (by rfl) (fun _ h => h.o2.all) (by kernel_rfl) (oc_len _ _ _ _ _ _ Hr2.out) ?_; simp only [Act.put, List.setIfInBounds_toArray, List.set_cons_zero, List.set_cons_succ]) | (refine Txt.tl_rowN (n := 37) (ty := 27) (by rfl) (by rfl) (by rfl) HS.out.o1.all (by kernel_rfl) (oc_len _ _ _ _ _ _ Hr.out) ?_; simp only [Act.put, List.setIfInBounds_toArray, List.set_cons_zero, List.set_cons_succ]) | (refine Txt.tl_rowN (n := 37) (ty := 27) (by rfl) (by rfl) (by rfl) HS.out.o2.all (by kernel_rfl) (oc_len _ _ _ _ _ _ Hr2.out) ?_; simp only [Act.put, List.setIfInBounds_toArray, List.set_cons_zero, List.set_cons_succ]) | (refine Txt.tl_loadS (v := .int .i64 K) (ty := 3) (by rfl) (by rfl) (by rfl) (by kernel_rfl) (fun _ h => h.o1.cells.1) ?_; simp only [Act.put, List.setIfInBounds_toArray, List.set_cons_zero, List.set_cons_succ]) | (refine Txt.tl_load (v := .int .i64 K) (ty := 3) (by rfl) (by rfl) (by rfl) (by kernel_rfl) HS.out.o1.cells.1 ?_; simp only [Act.put, List.setIfInBounds_toArray, List.set_cons_zero, List.set_cons_succ])))
    refine Txt.tl_call Tryd.func17 (by kernel_rfl) (by kernel_rfl) (by rfl) (by rfl) (by rfl) (check_any _ HS.out.tab K N Y V r a n c l Hr.out HS.out.a1 q Hq.out) ?_
    rintro e w3 ⟨rfl, k1⟩
    have HS : Hid _ := HS.out.calm k1
    clear k1
    refine ⟨_, rfl, HS.out, ?_⟩
    simp only [Act.put, List.setIfInBounds_toArray, List.set_cons_zero, List.set_cons_succ]
    (repeat (first | (refine Txt.tl_pure (v := ?_) (by rfl) ?_ ?_; rotate_left; (focus (intro _; go_simp; try with_reducible rfl)); simp only [Act.put, List.setIfInBounds_toArray, List.set_cons_zero, List.set_cons_succ]) | (refine Txt.tl_skip (by rfl) HS.out ?_; simp only [Act.put, List.setIfInBounds_toArray, List.set_cons_zero, List.set_cons_succ]) | (refine Txt.tl_rowSN (n := 37) (ty := 27) (by rfl) (by rfl) (by rfl) (fun _ h => h.o1.all) (by kernel_rfl) (oc_len _ _ _ _ _ _ Hr.out) ?_; simp only [Act.put, List.setIfInBounds_toArray, List.set_cons_zero, List.set_cons_succ]) | (refine Txt.tl_rowSN (n := 37) (ty := 27) (by rfl) (by rfl) (by rfl) (fun _ h => h.o2.all) (by kernel_rfl) (oc_len _ _ _ _ _ _ Hr2.out) ?_; simp only [Act.put, List.setIfInBounds_toArray, List.set_cons_zero, List.set_cons_succ]) | (refine Txt.tl_rowN (n := 37) (ty := 27) (by rfl) (by rfl) (by rfl) HS.out.o1.all (by kernel_rfl) (oc_len _ _ _ _ _ _ Hr.out) ?_; simp only [Act.put, List.setIfInBounds_toArray, List.set_cons_zero, List.set_cons_succ]) | (refine Txt.tl_rowN (n := 37) (ty := 27) (by rfl) (by rfl) (by rfl) HS.out.o2.all (by kernel_rfl) (oc_len _ _ _ _ _ _ Hr2.out) ?_; simp only [Act.put, List.setIfInBounds_toArray, List.set_cons_zero, List.set_cons_succ]) | (refine Txt.tl_loadS (v := .int .i64 K) (ty := 3) (by rfl) (by rfl) (by rfl) (by kernel_rfl) (fun _ h => h.o1.cells.1) ?_; simp only [Act.put, List.setIfInBounds_toArray, List.set_cons_zero, List.set_cons_succ]) | (refine Txt.tl_load (v := .int .i64 K) (ty := 3) (by rfl) (by rfl) (by rfl) (by kernel_rfl) HS.out.o1.cells.1 ?_; simp only [Act.put, List.setIfInBounds_toArray, List.set_cons_zero, List.set_cons_succ])))
    refine Txt.tl_call Tryd.func18 (by kernel_rfl) (by kernel_rfl) (by rfl) (by rfl) (by rfl) (rcheck_any _ K N Y V r a n c l Hr.out HS.out.a1 q Hq.out) ?_
    rintro e w4 ⟨rfl, k1⟩
    have HS : Hid _ := HS.out.calm k1
    clear k1
    refine ⟨_, rfl, HS.out, ?_⟩
    simp only [Act.put, List.setIfInBounds_toArray, List.set_cons_zero, List.set_cons_succ]
    (repeat (first | (refine Txt.tl_pure (v := ?_) (by rfl) ?_ ?_; rotate_left; (focus (intro _; go_simp; try with_reducible rfl)); simp only [Act.put, List.setIfInBounds_toArray, List.set_cons_zero, List.set_cons_succ]) | (refine Txt.tl_skip (by rfl) HS.out ?_; simp only [Act.put, List.setIfInBounds_toArray, List.set_cons_zero, List.set_cons_succ]) | (refine Txt.tl_rowSN (n := 37) (ty := 27) (by rfl) (by rfl) (by rfl) (fun _ h => h.o1.all) (by kernel_rfl) (oc_len _ _ _ _ _ _ Hr.out) ?_; simp only [Act.put, List.setIfInBounds_toArray, List.set_cons_zero, List.set_cons_succ]) | (refine Txt.tl_rowSN (n := 37) (ty := 27) (by rfl) (by rfl) (by rfl) (fun _ h => h.o2.all) (by kernel_rfl) (oc_len _ _ _ _ _ _ Hr2.out) ?_; simp only [Act.put, List.setIfInBounds_toArray, List.set_cons_zero, List.set_cons_succ]) | (refine Txt.tl_rowN (n := 37) (ty := 27) (by rfl) (by rfl) (by rfl) HS.out.o1.all (by kernel_rfl) (oc_len _ _ _ _ _ _ Hr.out) ?_; simp only [Act.put, List.setIfInBounds_toArray, List.set_cons_zero, List.set_cons_succ]) | (refine Txt.tl_rowN (n := 37) (ty := 27) (by rfl) (by rfl) (by rfl) HS.out.o2.all (by kernel_rfl) (oc_len _ _ _ _ _ _ Hr2.out) ?_; simp only [Act.put, List.setIfInBounds_toArray, List.set_cons_zero, List.set_cons_succ]) | (refine Txt.tl_loadS (v := .int .i64 K) (ty := 3) (by rfl) (by rfl) (by rfl) (by kernel_rfl) (fun _ h => h.o1.cells.1) ?_; simp only [Act.put, List.setIfInBounds_toArray, List.set_cons_zero, List.set_cons_succ]) | (refine Txt.tl_load (v := .int .i64 K) (ty := 3) (by rfl) (by rfl) (by rfl) (by kernel_rfl) HS.out.o1.cells.1 ?_; simp only [Act.put, List.setIfInBounds_toArray, List.set_cons_zero, List.set_cons_succ])))
    refine Txt.tl_call Tryd.func19 (by kernel_rfl) (by kernel_rfl) (by rfl) (by rfl) (by rfl) (same_o _ K N K2 N2 Y V Y2 V2 r r2 a a2 n c n2 c2 l l2 Hr.out Hr2.out HS.out.a1 HS.out.a2 v Hv.out) ?_
    rintro e w5 ⟨rfl, k1⟩
    have HS : Hid _ := HS.out.calm k1
    clear k1
    refine ⟨_, rfl, HS.out, ?_⟩
    simp only [Act.put, List.setIfInBounds_toArray, List.set_cons_zero, List.set_cons_succ]
    (repeat (first | (refine Txt.tl_pure (v := ?_) (by rfl) ?_ ?_; rotate_left; (focus (intro _; go_simp; try with_reducible rfl)); simp only [Act.put, List.setIfInBounds_toArray, List.set_cons_zero, List.set_cons_succ]) | (refine Txt.tl_skip (by rfl) HS.out ?_; simp only [Act.put, List.setIfInBounds_toArray, List.set_cons_zero, List.set_cons_succ]) | (refine Txt.tl_rowSN (n := 37) (ty := 27) (by rfl) (by rfl) (by rfl) (fun _ h => h.o1.all) (by kernel_rfl) (oc_len _ _ _ _ _ _ Hr.out) ?_; simp only [Act.put, List.setIfInBounds_toArray, List.set_cons_zero, List.set_cons_succ]) | (refine Txt.tl_rowSN (n := 37) (ty := 27) (by rfl) (by rfl) (by rfl) (fun _ h => h.o2.all) (by kernel_rfl) (oc_len _ _ _ _ _ _ Hr2.out) ?_; simp only [Act.put, List.setIfInBounds_toArray, List.set_cons_zero, List.set_cons_succ]) | (refine Txt.tl_rowN (n := 37) (ty := 27) (by rfl) (by rfl) (by rfl) HS.out.o1.all (by kernel_rfl) (oc_len _ _ _ _ _ _ Hr.out) ?_; simp only [Act.put, List.setIfInBounds_toArray, List.set_cons_zero, List.set_cons_succ]) | (refine Txt.tl_rowN (n := 37) (ty := 27) (by rfl) (by rfl) (by rfl) HS.out.o2.all (by kernel_rfl) (oc_len _ _ _ _ _ _ Hr2.out) ?_; simp only [Act.put, List.setIfInBounds_toArray, List.set_cons_zero, List.set_cons_succ]) | (refine Txt.tl_loadS (v := .int .i64 K) (ty := 3) (by rfl) (by rfl) (by rfl) (by kernel_rfl) (fun _ h => h.o1.cells.1) ?_; simp only [Act.put, List.setIfInBounds_toArray, List.set_cons_zero, List.set_cons_succ]) | (refine Txt.tl_load (v := .int .i64 K) (ty := 3) (by rfl) (by rfl) (by rfl) (by kernel_rfl) HS.out.o1.cells.1 ?_; simp only [Act.put, List.setIfInBounds_toArray, List.set_cons_zero, List.set_cons_succ])))
    refine Txt.tl_call Tryd.func14 (by kernel_rfl) (by kernel_rfl) (by rfl) (by rfl) (by rfl) (rsame_o _ K N K2 N2 Y V Y2 V2 r r2 a a2 n c n2 c2 l l2 Hr.out Hr2.out HS.out.a1 HS.out.a2 v Hv.out) ?_
    rintro e w6 ⟨rfl, k1⟩
    have HS : Hid _ := HS.out.calm k1
    clear k1
    refine ⟨_, rfl, HS.out, ?_⟩
    simp only [Act.put, List.setIfInBounds_toArray, List.set_cons_zero, List.set_cons_succ]
    (repeat (first | (refine Txt.tl_pure (v := ?_) (by rfl) ?_ ?_; rotate_left; (focus (intro _; go_simp; try with_reducible rfl)); simp only [Act.put, List.setIfInBounds_toArray, List.set_cons_zero, List.set_cons_succ]) | (refine Txt.tl_skip (by rfl) HS.out ?_; simp only [Act.put, List.setIfInBounds_toArray, List.set_cons_zero, List.set_cons_succ]) | (refine Txt.tl_rowSN (n := 37) (ty := 27) (by rfl) (by rfl) (by rfl) (fun _ h => h.o1.all) (by kernel_rfl) (oc_len _ _ _ _ _ _ Hr.out) ?_; simp only [Act.put, List.setIfInBounds_toArray, List.set_cons_zero, List.set_cons_succ]) | (refine Txt.tl_rowSN (n := 37) (ty := 27) (by rfl) (by rfl) (by rfl) (fun _ h => h.o2.all) (by kernel_rfl) (oc_len _ _ _ _ _ _ Hr2.out) ?_; simp only [Act.put, List.setIfInBounds_toArray, List.set_cons_zero, List.set_cons_succ]) | (refine Txt.tl_rowN (n := 37) (ty := 27) (by rfl) (by rfl) (by rfl) HS.out.o1.all (by kernel_rfl) (oc_len _ _ _ _ _ _ Hr.out) ?_; simp only [Act.put, List.setIfInBounds_toArray, List.set_cons_zero, List.set_cons_succ]) | (refine Txt.tl_rowN (n := 37) (ty := 27) (by rfl) (by rfl) (by rfl) HS.out.o2.all (by kernel_rfl) (oc_len _ _ _ _ _ _ Hr2.out) ?_; simp only [Act.put, List.setIfInBounds_toArray, List.set_cons_zero, List.set_cons_succ]) | (refine Txt.tl_loadS (v := .int .i64 K) (ty := 3) (by rfl) (by rfl) (by rfl) (by kernel_rfl) (fun _ h => h.o1.cells.1) ?_; simp only [Act.put, List.setIfInBounds_toArray, List.set_cons_zero, List.set_cons_succ]) | (refine Txt.tl_load (v := .int .i64 K) (ty := 3) (by rfl) (by rfl) (by rfl) (by kernel_rfl) HS.out.o1.cells.1 ?_; simp only [Act.put, List.setIfInBounds_toArray, List.set_cons_zero, List.set_cons_succ])))
    refine Txt.tl_call Tryd.func19 (by kernel_rfl) (by kernel_rfl) (by rfl) (by rfl) (by rfl) (same_o _ K N K N Y V Y V r r a a n c n c l l Hr.out Hr.out HS.out.a1 HS.out.a1 true (OpReads.sm_self _ _ _ _ _ _)) ?_
    rintro e w7 ⟨rfl, k1⟩
    have HS : Hid _ := HS.out.calm k1
    clear k1
    refine ⟨_, rfl, HS.out, ?_⟩
    simp only [Act.put, List.setIfInBounds_toArray, List.set_cons_zero, List.set_cons_succ]
    (repeat (first | (refine Txt.tl_pure (v := ?_) (by rfl) ?_ ?_; rotate_left; (focus (intro _; go_simp; try with_reducible rfl)); simp only [Act.put, List.setIfInBounds_toArray, List.set_cons_zero, List.set_cons_succ]) | (refine Txt.tl_skip (by rfl) HS.out ?_; simp only [Act.put, List.setIfInBounds_toArray, List.set_cons_zero, List.set_cons_succ]) | (refine Txt.tl_rowSN (n := 37) (ty := 27) (by rfl) (by rfl) (by rfl) (fun _ h => h.o1.all) (by kernel_rfl) (oc_len _ _ _ _ _ _ Hr.out) ?_; simp only [Act.put, List.setIfInBounds_toArray, List.set_cons_zero, List.set_cons_succ]) | (refine Txt.tl_rowSN (n := 37) (ty := 27) (by rfl) (by rfl) (by rfl) (fun _ h => h.o2.all) (by kernel_rfl) (oc_len _ _ _ _ _ _ Hr2.out) ?_; simp only [Act.put, List.setIfInBounds_toArray, List.set_cons_zero, List.set_cons_succ]) | (refine Txt.tl_rowN (n := 37) (ty := 27) (by rfl) (by rfl) (by rfl) HS.out.o1.all (by kernel_rfl) (oc_len _ _ _ _ _ _ Hr.out) ?_; simp only [Act.put, List.setIfInBounds_toArray, List.set_cons_zero, List.set_cons_succ]) | (refine Txt.tl_rowN (n := 37) (ty := 27) (by rfl) (by rfl) (by rfl) HS.out.o2.all (by kernel_rfl) (oc_len _ _ _ _ _ _ Hr2.out) ?_; simp only [Act.put, List.setIfInBounds_toArray, List.set_cons_zero, List.set_cons_succ]) | (refine Txt.tl_loadS (v := .int .i64 K) (ty := 3) (by rfl) (by rfl) (by rfl) (by kernel_rfl) (fun _ h => h.o1.cells.1) ?_; simp only [Act.put, List.setIfInBounds_toArray, List.set_cons_zero, List.set_cons_succ]) | (refine Txt.tl_load (v := .int .i64 K) (ty := 3) (by rfl) (by rfl) (by rfl) (by kernel_rfl) HS.out.o1.cells.1 ?_; simp only [Act.put, List.setIfInBounds_toArray, List.set_cons_zero, List.set_cons_succ])))
    refine Txt.tl_call Tryd.func20 (by kernel_rfl) (by kernel_rfl) (by rfl) (by rfl) (by rfl) (belongs_any _ K b Hb.out) ?_
    rintro e w9 ⟨rfl, rfl⟩
    refine ⟨_, rfl, HS.out, ?_⟩
    simp only [Act.put, List.setIfInBounds_toArray, List.set_cons_zero, List.set_cons_succ]
    (repeat (first | (refine Txt.tl_pure (v := ?_) (by rfl) ?_ ?_; rotate_left; (focus (intro _; go_simp; try with_reducible rfl)); simp only [Act.put, List.setIfInBounds_toArray, List.set_cons_zero, List.set_cons_succ]) | (refine Txt.tl_skip (by rfl) HS.out ?_; simp only [Act.put, List.setIfInBounds_toArray, List.set_cons_zero, List.set_cons_succ]) | (refine Txt.tl_rowSN (n := 37) (ty := 27) (by rfl) (by rfl) (by rfl) (fun _ h => h.o1.all) (by kernel_rfl) (oc_len _ _ _ _ _ _ Hr.out) ?_; simp only [Act.put, List.setIfInBounds_toArray, List.set_cons_zero, List.set_cons_succ]) | (refine Txt.tl_rowSN (n := 37) (ty := 27) (by rfl) (by rfl) (by rfl) (fun _ h => h.o2.all) (by kernel_rfl) (oc_len _ _ _ _ _ _ Hr2.out) ?_; simp only [Act.put, List.setIfInBounds_toArray, List.set_cons_zero, List.set_cons_succ]) | (refine Txt.tl_rowN (n := 37) (ty := 27) (by rfl) (by rfl) (by rfl) HS.out.o1.all (by kernel_rfl) (oc_len _ _ _ _ _ _ Hr.out) ?_; simp only [Act.put, List.setIfInBounds_toArray, List.set_cons_zero, List.set_cons_succ]) | (refine Txt.tl_rowN (n := 37) (ty := 27) (by rfl) (by rfl) (by rfl) HS.out.o2.all (by kernel_rfl) (oc_len _ _ _ _ _ _ Hr2.out) ?_; simp only [Act.put, List.setIfInBounds_toArray, List.set_cons_zero, List.set_cons_succ]) | (refine Txt.tl_loadS (v := .int .i64 K) (ty := 3) (by rfl) (by rfl) (by rfl) (by kernel_rfl) (fun _ h => h.o1.cells.1) ?_; simp only [Act.put, List.setIfInBounds_toArray, List.set_cons_zero, List.set_cons_succ]) | (refine Txt.tl_load (v := .int .i64 K) (ty := 3) (by rfl) (by rfl) (by rfl) (by kernel_rfl) HS.out.o1.cells.1 ?_; simp only [Act.put, List.setIfInBounds_toArray, List.set_cons_zero, List.set_cons_succ])))
    refine Txt.tl_call Tryd.func21 (by kernel_rfl) (by kernel_rfl) (by rfl) (by rfl) (by rfl) (rbelongs_any _ K b Hb.out) ?_
    rintro e w9 ⟨rfl, rfl⟩
    refine ⟨_, rfl, HS.out, ?_⟩
    simp only [Act.put, List.setIfInBounds_toArray, List.set_cons_zero, List.set_cons_succ]
    (repeat (first | (refine Txt.tl_pure (v := ?_) (by rfl) ?_ ?_; rotate_left; (focus (intro _; go_simp; try with_reducible rfl)); simp only [Act.put, List.setIfInBounds_toArray, List.set_cons_zero, List.set_cons_succ]) | (refine Txt.tl_skip (by rfl) HS.out ?_; simp only [Act.put, List.setIfInBounds_toArray, List.set_cons_zero, List.set_cons_succ]) | (refine Txt.tl_rowSN (n := 37) (ty := 27) (by rfl) (by rfl) (by rfl) (fun _ h => h.o1.all) (by kernel_rfl) (oc_len _ _ _ _ _ _ Hr.out) ?_; simp only [Act.put, List.setIfInBounds_toArray, List.set_cons_zero, List.set_cons_succ]) | (refine Txt.tl_rowSN (n := 37) (ty := 27) (by rfl) (by rfl) (by rfl) (fun _ h => h.o2.all) (by kernel_rfl) (oc_len _ _ _ _ _ _ Hr2.out) ?_; simp only [Act.put, List.setIfInBounds_toArray, List.set_cons_zero, List.set_cons_succ]) | (refine Txt.tl_rowN (n := 37) (ty := 27) (by rfl) (by rfl) (by rfl) HS.out.o1.all (by kernel_rfl) (oc_len _ _ _ _ _ _ Hr.out) ?_; simp only [Act.put, List.setIfInBounds_toArray, List.set_cons_zero, List.set_cons_succ]) | (refine Txt.tl_rowN (n := 37) (ty := 27) (by rfl) (by rfl) (by rfl) HS.out.o2.all (by kernel_rfl) (oc_len _ _ _ _ _ _ Hr2.out) ?_; simp only [Act.put, List.setIfInBounds_toArray, List.set_cons_zero, List.set_cons_succ]) | (refine Txt.tl_loadS (v := .int .i64 K) (ty := 3) (by rfl) (by rfl) (by rfl) (by kernel_rfl) (fun _ h => h.o1.cells.1) ?_; simp only [Act.put, List.setIfInBounds_toArray, List.set_cons_zero, List.set_cons_succ]) | (refine Txt.tl_load (v := .int .i64 K) (ty := 3) (by rfl) (by rfl) (by rfl) (by kernel_rfl) HS.out.o1.cells.1 ?_; simp only [Act.put, List.setIfInBounds_toArray, List.set_cons_zero, List.set_cons_succ])))
    refine Txt.tl_call Tryd.func11 (by kernel_rfl) (by kernel_rfl) (by rfl) (by rfl) (by rfl) (awake_true _ HS.out.tab) ?_
    rintro e w8 ⟨rfl, k1⟩
    have HS : Hid _ := HS.out.calm k1
    clear k1
    refine ⟨_, rfl, HS.out, ?_⟩
    simp only [Act.put, List.setIfInBounds_toArray, List.set_cons_zero, List.set_cons_succ]
    (repeat (first | (refine Txt.tl_pure (v := ?_) (by rfl) ?_ ?_; rotate_left; (focus (intro _; go_simp; try with_reducible rfl)); simp only [Act.put, List.setIfInBounds_toArray, List.set_cons_zero, List.set_cons_succ]) | (refine Txt.tl_skip (by rfl) HS.out ?_; simp only [Act.put, List.setIfInBounds_toArray, List.set_cons_zero, List.set_cons_succ]) | (refine Txt.tl_rowSN (n := 37) (ty := 27) (by rfl) (by rfl) (by rfl) (fun _ h => h.o1.all) (by kernel_rfl) (oc_len _ _ _ _ _ _ Hr.out) ?_; simp only [Act.put, List.setIfInBounds_toArray, List.set_cons_zero, List.set_cons_succ]) | (refine Txt.tl_rowSN (n := 37) (ty := 27) (by rfl) (by rfl) (by rfl) (fun _ h => h.o2.all) (by kernel_rfl) (oc_len _ _ _ _ _ _ Hr2.out) ?_; simp only [Act.put, List.setIfInBounds_toArray, List.set_cons_zero, List.set_cons_succ]) | (refine Txt.tl_rowN (n := 37) (ty := 27) (by rfl) (by rfl) (by rfl) HS.out.o1.all (by kernel_rfl) (oc_len _ _ _ _ _ _ Hr.out) ?_; simp only [Act.put, List.setIfInBounds_toArray, List.set_cons_zero, List.set_cons_succ]) | (refine Txt.tl_rowN (n := 37) (ty := 27) (by rfl) (by rfl) (by rfl) HS.out.o2.all (by kernel_rfl) (oc_len _ _ _ _ _ _ Hr2.out) ?_; simp only [Act.put, List.setIfInBounds_toArray, List.set_cons_zero, List.set_cons_succ]) | (refine Txt.tl_loadS (v := .int .i64 K) (ty := 3) (by rfl) (by rfl) (by rfl) (by kernel_rfl) (fun _ h => h.o1.cells.1) ?_; simp only [Act.put, List.setIfInBounds_toArray, List.set_cons_zero, List.set_cons_succ]) | (refine Txt.tl_load (v := .int .i64 K) (ty := 3) (by rfl) (by rfl) (by rfl) (by kernel_rfl) HS.out.o1.cells.1 ?_; simp only [Act.put, List.setIfInBounds_toArray, List.set_cons_zero, List.set_cons_succ])))
    refine Txt.tl_nil ?_
    go_wp2
    go_ret
    exact ⟨rfl, Keep.below HS.out.keep (Nat.le_refl _) (fun _ h => h.elim)⟩
  · have hgo' : 60 < n ∨ (n ≤ 60 ∧ 60 < n2) := by omega
    clear hgo
    rcases hgo' with h | ⟨h, h'⟩
    all_goals
      go_enter Tryd.func5, Tryd.ntmps5
      go_wp2_with (first | (go_at_call 11; refine (awake_true _ HS.out.tab).mono ?_; rintro e w5 ⟨rfl, k1⟩; have HS : Hid _ := HS.out.calm k1; clear k1))
      go_ret
      exact ⟨rfl, Keep.below HS.out.keep (Nat.le_refl _) (fun _ h => h.elim)⟩

set_option maxRecDepth 100000 in
theorem own : ownKnob Tryd.prog.godebug = none := by kernel_rfl
set_option maxRecDepth 100000 in
theorem laidOut : laidOutB Tryd.prog = true := by kernel_rfl
set_option maxRecDepth 100000 in
theorem contract (H : Type) (enc : TypeId × Value → H) (W : World) (base : Nat) (args : Array Value) (ds gs : List (DataW H)) (before : List MemPlace)
    (hval : ∀ (j : Nat) t v, Tryd.f5.params[j]? = some t → args[j]? = some v → Value.okWide Tryd.prog W .any base t v)
    (hW : DataW.Whole enc Tryd.prog Tryd.f5.params.toList Rows.opPutsSpec.vars false W args.toList ds gs before) (hL : laidMetH Tryd.prog Rows.opPutsRow.laid W) :
    Calls Tryd.prog 5 args W fun e W' => ∃ v, e = .returned v ∧ Rows.opPutsSpec.post enc Tryd.prog Tryd.f5 false true false false W args v W' := by
  have hW' := hW
  have hTab := Lad.parts_of hL
  obtain ⟨p, q, hA0, hV, rfl, hfz, hnd⟩ := hW
  have hA : DataW.TrodAll enc Tryd.prog W 0 (fun _ => true) true Tryd.f5.params.toList args.toList ds p := hA0
  rw [Tryd.params5] at hA hval
  obtain ⟨rfl, rfl⟩ := trodVars_none hV
  obtain ⟨v0, vs0, d0, ds0, p0, q0, hargs, rfl, rfl, h0, r0⟩ := trodAll_cons hA
  obtain ⟨v1, vs1, d1, ds1, p1, q1, rfl, rfl, rfl, h1, r1⟩ := trodAll_cons r0
  obtain ⟨rfl, rfl, rfl⟩ := trodAll_nil r1
  obtain rfl : args = #[v0, v1] := by cases args; simp_all
  obtain ⟨x, rfl, f0, _⟩ := Opn.open_st Tryd.underlying27 rdO (hval 0 _ v0 rfl rfl) h0
  obtain ⟨y, rfl, f1, _⟩ := Opn.open_st Tryd.underlying27 rdO (hval 1 _ v1 rfl rfl) h1
  refine (walk x.1 x.2.1 y.1 y.2.1 x.2.2.1 x.2.2.2.1 y.2.2.1 y.2.2.2.1 x.2.2.2.2.1 y.2.2.2.2.1 x.2.2.2.2.2.1.a y.2.2.2.2.2.1.a x.2.2.2.2.2.1.len x.2.2.2.2.2.1.cap y.2.2.2.2.2.1.len y.2.2.2.2.2.1.cap x.2.2.2.2.2.1.els y.2.2.2.2.2.1.els W hTab f0.1 f1.1 f0.2 f1.2).mono fun e W' ⟨he, bel⟩ => ?_
  subst he
  exact ⟨_, rfl, Opn.law_post laidOut (by kernel_rfl) rfl Tryd.underlying4 rfl rfl hW' bel⟩
set_option maxRecDepth 100000 in
theorem lifted (os : Os) (started : os.Started) (H : Type) (enc : TypeId × Value → H) :
    ReturnsInHanded {} Tryd.checked os 5 .any (fun w args => (Rows.opPutsSpec.pre enc Tryd.prog Tryd.f5 [] false w args ∧ laidMetH Tryd.prog Rows.opPutsRow.laid w) ∧ sizedMet enc Tryd.prog Tryd.f5 (OpenSpec.ofChange Rows.opPutsSpec) false w args)
      (Rows.opPutsSpec.post enc Tryd.prog Tryd.f5 false true false false) := by
  refine returnsInHanded_of_change_and (C := Tryd.checked) (X := fun w _ => laidMetH Tryd.prog Rows.opPutsRow.laid w) (fun _ _ _ hh h => h.of_heap hh) own started (by kernel_rfl) Tryd.func5
    (ChangeSpec.witness_shaped (enc := enc) (C := Tryd.checked) (os := os) (X := fun w _ => laidMetH Tryd.prog Rows.opPutsRow.laid w) false (World.laidAll Tryd.prog os Rows.opPutsRow.laid) #[.agg oz0, .agg oz0] 8 (World.laidAll_os _ _ _)
      (World.shaped_of_ZipB (by kernel_rfl) (by kernel_rfl)) (by kernel_rfl) (by kernel_rfl) (by kernel_rfl)
      (by rw [MakeChecks.laidMetH_plain _ _ _ (by kernel_rfl)]; exact laidMet_laidAll _ (by kernel_rfl) (by kernel_rfl))) ?_
  intro W base args ds gs before hval0 hW _ _ hL _
  exact contract H enc W base args ds gs before hval0 hW hL
theorem over : Rows.opPutsRow.holds Tryd.pinned (OpenSpec.ofChange Rows.opPutsSpec) :=
  OpenClaim.holds_of_wide 5 Tryd.f5 rfl rfl rfl rfl rfl rfl rfl ⟨rfl, rfl, rfl, rfl, rfl⟩ rfl rfl rfl rfl rfl (by kernel_rfl) Tryd.func5 (by kernel_rfl)
    (of_decide_eq_true (by kernel_rfl)) (by unfold Func.isWrapper; first | (rw [if_pos (by decide +kernel)]; kernel_rfl) | (rw [if_neg (by decide +kernel)]; exact ⟨rfl, rfl⟩))
    (fun os started H enc _ => lifted os started H enc)
theorem proved : Rows.OpPutsCardSaid :=
  Claim7.holds_tied_plain_at .later [] [.data] true _ false over (fun _ h => by cases h) (by kernel_rfl) (fun _ h => by cases h) opPuts_row_tie rfl ⟨rfl, rfl⟩ (by kernel_rfl) rfl
    (fun f fn hf hfn => by
      obtain rfl : f = 5 := Option.some.inj ((show Tryd.prog.funcNamed "petrel/petrellaw07.OpPuts" = some 5 by kernel_rfl).symm.trans hf) |>.symm
      obtain rfl : fn = Tryd.f5 := (Option.some.inj (Tryd.func5.symm.trans hfn)).symm
      exact ⟨by kernel_rfl, fun j t ht => by
        rw [Tryd.params5] at ht
        have hm : t ∈ [27, 27] := by simpa using Array.mem_of_getElem? ht
        have hall : ([27, 27].all fun u => !Tryd.prog.wantsStandIn u) = true := by kernel_rfl
        exact (show Tryd.prog.wantsStandIn t = false by simpa using List.all_eq_true.1 hall t hm)⟩)
    (by kernel_rfl)
end OpPuts
end Go.Proofs.YtfoplimdbapdfaaDoor
