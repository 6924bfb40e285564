/-
  'petrellaw08.HeaderPuts': any header is put, checked and compared as the document says, and has the document's id. For every input.
-/
import Derived.Test.YthdjbpimjbkajaaDoorHdF
import Derived.Test.YthdjbpimjbkajaaDoorLad2
import Derived.Test.YthdjbpimjbkajaaDoorTie
import Derived.Test.YthdjbpimjbkajaaDoorCards
import Derived.SevenTiedAt
import Derived.Stop.Joined
set_option linter.unusedVariables false
set_option linter.unusedSimpArgs false
namespace Go.Proofs.YthdjbpimjbkajaaDoor
open Go.RowKit
namespace HeaderPuts
open Oct Ids Gn Hd Go.ChangeShapes Go.WideShapes Go.ChangeAt
open Mem (M blk)

/-- The two headers and the two ids. -/
structure TI (w wr : World) (ib jb b b2 : Nat) (u : List UInt8) (G G2 : Int) (T T2 : ByteArray) (A B2 Q Q2 Z Z2 : Int) (m m2 : List UInt8) (a a2 : Option Addr) (n c n2 c2 : Nat) (l l2 : List (List UInt8)) : Prop where
  ts : TS w wr b b2 G G2 T T2 A B2 Q Q2 Z Z2 m m2 a a2 n c n2 c2 l l2
  i1 : wr.heap[ib]? = some (.cells (u.map bv).toArray 23 (0, 0))
  i2 : wr.heap[jb]? = some (.cells (u.map bv).toArray 23 (0, 0))
section
variable {w wr : World} {ib jb b b2 : Nat} {u : List UInt8} {G G2 : Int} {T T2 : ByteArray} {A B2 Q Q2 Z Z2 : Int} {m m2 : List UInt8} {a a2 : Option Addr} {n c n2 c2 : Nat} {l l2 : List (List UInt8)}
theorem TI.calm (h : TI w wr ib jb b b2 u G G2 T T2 A B2 Q Q2 Z Z2 m m2 a a2 n c n2 c2 l l2) {w' : World} (k : Keep (fun _ => False) wr w') : TI w w' ib jb b b2 u G G2 T T2 A B2 Q Q2 Z Z2 m m2 a a2 n c n2 c2 l l2 :=
  ⟨h.ts.calm k, k.get h.i1 (fun h => h), k.get h.i2 (fun h => h)⟩
theorem rg {wr : World} {ib : Nat} {u : List UInt8} (h : wr.heap[ib]? = some (.cells (u.map bv).toArray 23 (0, 0))) : wr.rangeAt ib 0 (u.map bv) := fun j v hj => by
  rw [Nat.zero_add, cell_of h, List.getElem?_toArray]; exact hj
end
set_option maxHeartbeats 8000000 in
set_option maxRecDepth 100000 in
theorem walk (G G2 : Int) (T T2 : ByteArray) (A B2 Q Q2 Z Z2 : Int) (m m2 : List UInt8) (a a2 : Option Addr) (n c n2 c2 : Nat) (l l2 : List (List UInt8)) (w : World) (hT : Sha.TabF w ∧ Sha.TabK w) (hm : m.length = 32) (hm2 : m2.length = 32) (h1 : At w a n l) (h2 : At w a2 n2 l2) (hTz : T.size ≤ maxLen) :
    Calls Tryd.prog 4 #[.agg (hd (.slice a n c) G T A Q Z m).toArray, .agg (hd (.slice a2 n2 c2) G2 T2 B2 Q2 Z2 m2).toArray] w fun e w' => e = .returned (.bool true) ∧ Below w.heap.size w w' := by
  have HS : Hid _ := TS.start (G := G) (G2 := G2) (T := T) (T2 := T2) (A := A) (B2 := B2) (Q := Q) (Q2 := Q2) (Z := Z) (Z2 := Z2) (c := c) (c2 := c2) hm hm2 h1 h2 hT
  have Hr : Hid (m.length = 32) := hm
  have Hr2 : Hid (m2.length = 32) := hm2
  have HTz : Hid (T.size ≤ maxLen) := hTz
  obtain ⟨v, hv⟩ : ∃ v, smh l G T A Q Z m l2 G2 T2 B2 Q2 Z2 m2 = v := ⟨_, rfl⟩
  obtain ⟨p, hp⟩ : ∃ p, pv n l G T A Q Z m = p := ⟨_, rfl⟩
  obtain ⟨q, hq⟩ : ∃ q, ck n l G T A Q Z = q := ⟨_, rfl⟩
  have hul := iv_len n l G T A Q Z m
  obtain ⟨u, hu⟩ : ∃ u, iv n l G T A Q Z m = u := ⟨_, rfl⟩
  rw [hu] at hul
  have Hv : Hid _ := hv
  have Hp : Hid _ := hp
  have Hq : Hid _ := hq
  have Hu : Hid _ := hu
  have Hul : Hid (u.length = 32) := hul
  have Hum : Hid ((u.map bv).toArray.size = 32) := by show _ = _; rw [List.size_toArray, List.length_map]; exact hul
  have hm1 := h1.most
  have hm3 := h2.most
  unfold maxLen at hm1 hm3 hTz
  obtain ⟨g0, g1, g2, g3, g4, g5⟩ := HS.out.o1.cells
  obtain ⟨q0, q1, q2, q3, q4, q5⟩ := HS.out.o2.cells
  have hcmp : ∀ w, Sem.run Tryd.prog (binOp .eql 23 (.agg (u.map bv).toArray) (.agg (u.map bv).toArray)) w = .ok (.bool true) w := fun w => by have := eql_id w u u hul hul; simpa [idv] using this
  clear hv hp hq hu hul hm hm2 h1 h2 hT
  generalize hX : (hd (.slice a n c) G T A Q Z m).toArray = X at HS g0 g1 g2 g3 g4 g5 q0 q1 q2 q3 q4 q5 ⊢
  generalize hX2 : (hd (.slice a2 n2 c2) G2 T2 B2 Q2 Z2 m2).toArray = X2 at HS g0 g1 g2 g3 g4 g5 q0 q1 q2 q3 q4 q5 ⊢
  have HX : Hid _ := hX
  have HX2 : Hid _ := hX2
  clear hX hX2
  by_cases hgo : n ≤ 60 ∧ n2 ≤ 60 ∧ T.size ≤ 100
  · obtain ⟨g60, g61, g62⟩ := hgo
    have Hn : Hid (n ≤ 1000000) := (by omega : n ≤ 1000000)
    go_enter Tryd.func4, Tryd.ntmps4
    go_wp2_with (first | ((with_reducible refine at_load 29 ?_); refine St.wl_load tyH (by rfl) rfl rfl HS.out.o1.all (hd_len _ _ _ _ _ _ _ Hr.out) ?_; simp only [Act.put, List.setIfInBounds_toArray, List.set_cons_zero, List.set_cons_succ]) | (go_at_call 12; refine (put_any _ a n c l G T A Q Z m HS.out.a1 Hr.out Hn.out HTz.out).mono ?_; rw [Hp.out, Hq.out]; rintro e w1 ⟨rfl, k1⟩; have HS : Hid _ := HS.out.calm k1; clear k1) | (go_at_call 13; refine (rput_any _ a n c l G T A Q Z m HS.out.a1 Hr.out HTz.out).mono ?_; rw [Hp.out, Hq.out]; rintro e w2 ⟨rfl, k1⟩; have HS : Hid _ := HS.out.calm k1; clear k1) | (go_at_call 14; refine (ident_any _ HS.out.tab.1 HS.out.tab.2 a n c l G T A Q Z m HS.out.a1 Hr.out Hn.out HTz.out).mono ?_; rw [Hu.out, Hq.out]; rintro e w3 ⟨rfl, k1⟩; have HS : Hid _ := HS.out.calm k1; clear k1) | (go_at_call 15; refine (rident_any _ a n c l G T A Q Z m HS.out.a1 Hr.out HTz.out).mono ?_; rw [Hu.out, Hq.out]; rintro e w4 ⟨rfl, k1⟩; have HS : Hid _ := HS.out.calm k1; have I1 : Hid _ := k1.get I1.out (fun h => h); clear k1) | (refine St.wl_alloc tyI rfl rfl (by (try simp only [World.size_alloc]); rfl) ?_; simp only [Act.put, List.setIfInBounds_toArray, List.set_cons_zero, List.set_cons_succ]) | (refine St.wl_storeN (W := w4) tyI rfl rfl rfl rfl rfl (by (try simp only [World.size_alloc])) (show _ = Value.agg (u.map bv).toArray from rfl) Hum.out rfl (one_bv _) ?_; have HS : Hid _ := HS.out.calm ((Keep.refl _ _).alloc (.cells (u.map bv).toArray 23)); have I1 : Hid _ := ((Keep.refl (fun _ => False) w4).alloc (.cells (u.map bv).toArray 23)).get I1.out (fun h => h); have I2 : Hid _ := heap_alloc_new w4 (.cells (u.map bv).toArray 23)) | (refine St.wl_storeN (W := w3) tyI rfl rfl rfl rfl rfl (by (try simp only [World.size_alloc])) (show _ = Value.agg (u.map bv).toArray from rfl) Hum.out rfl (one_bv _) ?_; have HS : Hid _ := HS.out.calm ((Keep.refl _ _).alloc (.cells (u.map bv).toArray 23)); have I1 : Hid _ := heap_alloc_new w3 (.cells (u.map bv).toArray 23)))
    obtain ⟨ib, hib⟩ : ∃ b, w3.heap.size = b := ⟨_, rfl⟩
    obtain ⟨jb, hjb⟩ : ∃ b, w4.heap.size = b := ⟨_, rfl⟩
    obtain ⟨bb, hbb⟩ : ∃ b, w.heap.size = b := ⟨_, rfl⟩
    have HBB : Hid (w.heap.size = bb) := hbb
    rw [hib] at I1
    rw [hjb] at I2
    rw [hbb] at HS
    rw [hib, hjb, hbb]
    have HI : Hid (TI w _ ib jb bb (bb + 1) u G G2 T T2 A B2 Q Q2 Z Z2 m m2 a a2 n c n2 c2 l l2) := ⟨HS.out, I1.out, I2.out⟩
    clear hib hjb hbb HS I1 I2 g0 g1 g2 g3 g4 g5 q0 q1 q2 q3 q4 q5
    refine Txt.wp_region_text (fun w' => TI w w' ib jb bb (bb + 1) u G G2 T T2 A B2 Q Q2 Z Z2 m m2 a a2 n c n2 c2 l l2) [0, 0, 0, 0, 0, 0, 0, 0, 0, 1, 4, 2, 4, 0, 0, 0, 1, 1, 0, 0, 0, 0, 0, 0, 0, 0, 1, 1, 4, 2, 2, 4, 0, 0, 0, 1, 1, 4, 0, 0, 4, 0, 0] (by kernel_rfl) (by kernel_rfl) (HI.out.calm (Keep.refl _ _).drew) ?_
    have HI : Hid _ := HI.out.calm (Keep.refl _ _).drew
    (repeat (first | (refine Txt.tl_pure (v := ?_) (by rfl) ?_ ?_; rotate_left; (focus (intro _; go_simp; try with_reducible rfl)); simp only [Act.put, List.setIfInBounds_toArray, List.set_cons_zero, List.set_cons_succ]) | (refine Txt.tl_skip (by rfl) HI.out ?_; simp only [Act.put, List.setIfInBounds_toArray, List.set_cons_zero, List.set_cons_succ]) | (refine Txt.tl_rowSN (n := 38) (ty := 29) (by rfl) (by rfl) (by rfl) (fun _ h => h.ts.o1.all) (by kernel_rfl) (hd_len _ _ _ _ _ _ _ Hr.out) ?_; simp only [Act.put, List.setIfInBounds_toArray, List.set_cons_zero, List.set_cons_succ]) | (refine Txt.tl_rowSN (n := 38) (ty := 29) (by rfl) (by rfl) (by rfl) (fun _ h => h.ts.o2.all) (by kernel_rfl) (hd_len _ _ _ _ _ _ _ Hr2.out) ?_; simp only [Act.put, List.setIfInBounds_toArray, List.set_cons_zero, List.set_cons_succ]) | (refine Txt.tl_rowN (n := 38) (ty := 29) (by rfl) (by rfl) (by rfl) HI.out.ts.o1.all (by kernel_rfl) (hd_len _ _ _ _ _ _ _ Hr.out) ?_; simp only [Act.put, List.setIfInBounds_toArray, List.set_cons_zero, List.set_cons_succ]) | (refine Txt.tl_rowN (n := 38) (ty := 29) (by rfl) (by rfl) (by rfl) HI.out.ts.o2.all (by kernel_rfl) (hd_len _ _ _ _ _ _ _ Hr2.out) ?_; simp only [Act.put, List.setIfInBounds_toArray, List.set_cons_zero, List.set_cons_succ]) | (refine Txt.tl_rowSN (n := 32) (ty := 23) (by rfl) (by rfl) (by rfl) (fun _ h => rg h.i1) (by kernel_rfl) (by rw [List.length_map]; exact Hul.out) ?_; simp only [Act.put, List.setIfInBounds_toArray, List.set_cons_zero, List.set_cons_succ]) | (refine Txt.tl_rowSN (n := 32) (ty := 23) (by rfl) (by rfl) (by rfl) (fun _ h => rg h.i2) (by kernel_rfl) (by rw [List.length_map]; exact Hul.out) ?_; simp only [Act.put, List.setIfInBounds_toArray, List.set_cons_zero, List.set_cons_succ]) | (refine Txt.tl_rowN (n := 32) (ty := 23) (by rfl) (by rfl) (by rfl) (rg HI.out.i1) (by kernel_rfl) (by rw [List.length_map]; exact Hul.out) ?_; simp only [Act.put, List.setIfInBounds_toArray, List.set_cons_zero, List.set_cons_succ]) | (refine Txt.tl_rowN (n := 32) (ty := 23) (by rfl) (by rfl) (by rfl) (rg HI.out.i2) (by kernel_rfl) (by rw [List.length_map]; exact Hul.out) ?_; simp only [Act.put, List.setIfInBounds_toArray, List.set_cons_zero, List.set_cons_succ])))
    refine Txt.tl_call Tryd.func16 (by kernel_rfl) (by kernel_rfl) (by rfl) (by rfl) (by rfl) (check_any _ a n c l G T A Q Z m HI.out.ts.a1 Hr.out Hn.out HTz.out q Hq.out) ?_
    rintro e w5 ⟨rfl, k1⟩
    have HI : Hid _ := HI.out.calm k1
    clear k1
    refine ⟨_, rfl, HI.out, ?_⟩
    simp only [Act.put, List.setIfInBounds_toArray, List.set_cons_zero, List.set_cons_succ]
    (repeat (first | (refine Txt.tl_pure (v := ?_) (by rfl) ?_ ?_; rotate_left; (focus (intro _; go_simp; try with_reducible rfl)); simp only [Act.put, List.setIfInBounds_toArray, List.set_cons_zero, List.set_cons_succ]) | (refine Txt.tl_skip (by rfl) HI.out ?_; simp only [Act.put, List.setIfInBounds_toArray, List.set_cons_zero, List.set_cons_succ]) | (refine Txt.tl_rowSN (n := 38) (ty := 29) (by rfl) (by rfl) (by rfl) (fun _ h => h.ts.o1.all) (by kernel_rfl) (hd_len _ _ _ _ _ _ _ Hr.out) ?_; simp only [Act.put, List.setIfInBounds_toArray, List.set_cons_zero, List.set_cons_succ]) | (refine Txt.tl_rowSN (n := 38) (ty := 29) (by rfl) (by rfl) (by rfl) (fun _ h => h.ts.o2.all) (by kernel_rfl) (hd_len _ _ _ _ _ _ _ Hr2.out) ?_; simp only [Act.put, List.setIfInBounds_toArray, List.set_cons_zero, List.set_cons_succ]) | (refine Txt.tl_rowN (n := 38) (ty := 29) (by rfl) (by rfl) (by rfl) HI.out.ts.o1.all (by kernel_rfl) (hd_len _ _ _ _ _ _ _ Hr.out) ?_; simp only [Act.put, List.setIfInBounds_toArray, List.set_cons_zero, List.set_cons_succ]) | (refine Txt.tl_rowN (n := 38) (ty := 29) (by rfl) (by rfl) (by rfl) HI.out.ts.o2.all (by kernel_rfl) (hd_len _ _ _ _ _ _ _ Hr2.out) ?_; simp only [Act.put, List.setIfInBounds_toArray, List.set_cons_zero, List.set_cons_succ]) | (refine Txt.tl_rowSN (n := 32) (ty := 23) (by rfl) (by rfl) (by rfl) (fun _ h => rg h.i1) (by kernel_rfl) (by rw [List.length_map]; exact Hul.out) ?_; simp only [Act.put, List.setIfInBounds_toArray, List.set_cons_zero, List.set_cons_succ]) | (refine Txt.tl_rowSN (n := 32) (ty := 23) (by rfl) (by rfl) (by rfl) (fun _ h => rg h.i2) (by kernel_rfl) (by rw [List.length_map]; exact Hul.out) ?_; simp only [Act.put, List.setIfInBounds_toArray, List.set_cons_zero, List.set_cons_succ]) | (refine Txt.tl_rowN (n := 32) (ty := 23) (by rfl) (by rfl) (by rfl) (rg HI.out.i1) (by kernel_rfl) (by rw [List.length_map]; exact Hul.out) ?_; simp only [Act.put, List.setIfInBounds_toArray, List.set_cons_zero, List.set_cons_succ]) | (refine Txt.tl_rowN (n := 32) (ty := 23) (by rfl) (by rfl) (by rfl) (rg HI.out.i2) (by kernel_rfl) (by rw [List.length_map]; exact Hul.out) ?_; simp only [Act.put, List.setIfInBounds_toArray, List.set_cons_zero, List.set_cons_succ])))
    refine Txt.tl_call Tryd.func17 (by kernel_rfl) (by kernel_rfl) (by rfl) (by rfl) (by rfl) (rcheck_any _ a n c l G T A Q Z m HI.out.ts.a1 Hr.out HTz.out q Hq.out) ?_
    rintro e w6 ⟨rfl, k1⟩
    have HI : Hid _ := HI.out.calm k1
    clear k1
    refine ⟨_, rfl, HI.out, ?_⟩
    simp only [Act.put, List.setIfInBounds_toArray, List.set_cons_zero, List.set_cons_succ]
    (repeat (first | (refine Txt.tl_pure (v := ?_) (by rfl) ?_ ?_; rotate_left; (focus (intro _; go_simp; try with_reducible rfl)); simp only [Act.put, List.setIfInBounds_toArray, List.set_cons_zero, List.set_cons_succ]) | (refine Txt.tl_skip (by rfl) HI.out ?_; simp only [Act.put, List.setIfInBounds_toArray, List.set_cons_zero, List.set_cons_succ]) | (refine Txt.tl_rowSN (n := 38) (ty := 29) (by rfl) (by rfl) (by rfl) (fun _ h => h.ts.o1.all) (by kernel_rfl) (hd_len _ _ _ _ _ _ _ Hr.out) ?_; simp only [Act.put, List.setIfInBounds_toArray, List.set_cons_zero, List.set_cons_succ]) | (refine Txt.tl_rowSN (n := 38) (ty := 29) (by rfl) (by rfl) (by rfl) (fun _ h => h.ts.o2.all) (by kernel_rfl) (hd_len _ _ _ _ _ _ _ Hr2.out) ?_; simp only [Act.put, List.setIfInBounds_toArray, List.set_cons_zero, List.set_cons_succ]) | (refine Txt.tl_rowN (n := 38) (ty := 29) (by rfl) (by rfl) (by rfl) HI.out.ts.o1.all (by kernel_rfl) (hd_len _ _ _ _ _ _ _ Hr.out) ?_; simp only [Act.put, List.setIfInBounds_toArray, List.set_cons_zero, List.set_cons_succ]) | (refine Txt.tl_rowN (n := 38) (ty := 29) (by rfl) (by rfl) (by rfl) HI.out.ts.o2.all (by kernel_rfl) (hd_len _ _ _ _ _ _ _ Hr2.out) ?_; simp only [Act.put, List.setIfInBounds_toArray, List.set_cons_zero, List.set_cons_succ]) | (refine Txt.tl_rowSN (n := 32) (ty := 23) (by rfl) (by rfl) (by rfl) (fun _ h => rg h.i1) (by kernel_rfl) (by rw [List.length_map]; exact Hul.out) ?_; simp only [Act.put, List.setIfInBounds_toArray, List.set_cons_zero, List.set_cons_succ]) | (refine Txt.tl_rowSN (n := 32) (ty := 23) (by rfl) (by rfl) (by rfl) (fun _ h => rg h.i2) (by kernel_rfl) (by rw [List.length_map]; exact Hul.out) ?_; simp only [Act.put, List.setIfInBounds_toArray, List.set_cons_zero, List.set_cons_succ]) | (refine Txt.tl_rowN (n := 32) (ty := 23) (by rfl) (by rfl) (by rfl) (rg HI.out.i1) (by kernel_rfl) (by rw [List.length_map]; exact Hul.out) ?_; simp only [Act.put, List.setIfInBounds_toArray, List.set_cons_zero, List.set_cons_succ]) | (refine Txt.tl_rowN (n := 32) (ty := 23) (by rfl) (by rfl) (by rfl) (rg HI.out.i2) (by kernel_rfl) (by rw [List.length_map]; exact Hul.out) ?_; simp only [Act.put, List.setIfInBounds_toArray, List.set_cons_zero, List.set_cons_succ])))
    refine Txt.tl_call Tryd.func18 (by kernel_rfl) (by kernel_rfl) (by rfl) (by rfl) (by rfl) (same_h _ a a2 n c n2 c2 l l2 G G2 T T2 A B2 Q Q2 Z Z2 m m2 Hr.out Hr2.out HI.out.ts.a1 HI.out.ts.a2 v Hv.out) ?_
    rintro e w7 ⟨rfl, k1⟩
    have HI : Hid _ := HI.out.calm k1
    clear k1
    refine ⟨_, rfl, HI.out, ?_⟩
    simp only [Act.put, List.setIfInBounds_toArray, List.set_cons_zero, List.set_cons_succ]
    (repeat (first | (refine Txt.tl_pure (v := ?_) (by rfl) ?_ ?_; rotate_left; (focus (intro _; go_simp; try with_reducible rfl)); simp only [Act.put, List.setIfInBounds_toArray, List.set_cons_zero, List.set_cons_succ]) | (refine Txt.tl_skip (by rfl) HI.out ?_; simp only [Act.put, List.setIfInBounds_toArray, List.set_cons_zero, List.set_cons_succ]) | (refine Txt.tl_rowSN (n := 38) (ty := 29) (by rfl) (by rfl) (by rfl) (fun _ h => h.ts.o1.all) (by kernel_rfl) (hd_len _ _ _ _ _ _ _ Hr.out) ?_; simp only [Act.put, List.setIfInBounds_toArray, List.set_cons_zero, List.set_cons_succ]) | (refine Txt.tl_rowSN (n := 38) (ty := 29) (by rfl) (by rfl) (by rfl) (fun _ h => h.ts.o2.all) (by kernel_rfl) (hd_len _ _ _ _ _ _ _ Hr2.out) ?_; simp only [Act.put, List.setIfInBounds_toArray, List.set_cons_zero, List.set_cons_succ]) | (refine Txt.tl_rowN (n := 38) (ty := 29) (by rfl) (by rfl) (by rfl) HI.out.ts.o1.all (by kernel_rfl) (hd_len _ _ _ _ _ _ _ Hr.out) ?_; simp only [Act.put, List.setIfInBounds_toArray, List.set_cons_zero, List.set_cons_succ]) | (refine Txt.tl_rowN (n := 38) (ty := 29) (by rfl) (by rfl) (by rfl) HI.out.ts.o2.all (by kernel_rfl) (hd_len _ _ _ _ _ _ _ Hr2.out) ?_; simp only [Act.put, List.setIfInBounds_toArray, List.set_cons_zero, List.set_cons_succ]) | (refine Txt.tl_rowSN (n := 32) (ty := 23) (by rfl) (by rfl) (by rfl) (fun _ h => rg h.i1) (by kernel_rfl) (by rw [List.length_map]; exact Hul.out) ?_; simp only [Act.put, List.setIfInBounds_toArray, List.set_cons_zero, List.set_cons_succ]) | (refine Txt.tl_rowSN (n := 32) (ty := 23) (by rfl) (by rfl) (by rfl) (fun _ h => rg h.i2) (by kernel_rfl) (by rw [List.length_map]; exact Hul.out) ?_; simp only [Act.put, List.setIfInBounds_toArray, List.set_cons_zero, List.set_cons_succ]) | (refine Txt.tl_rowN (n := 32) (ty := 23) (by rfl) (by rfl) (by rfl) (rg HI.out.i1) (by kernel_rfl) (by rw [List.length_map]; exact Hul.out) ?_; simp only [Act.put, List.setIfInBounds_toArray, List.set_cons_zero, List.set_cons_succ]) | (refine Txt.tl_rowN (n := 32) (ty := 23) (by rfl) (by rfl) (by rfl) (rg HI.out.i2) (by kernel_rfl) (by rw [List.length_map]; exact Hul.out) ?_; simp only [Act.put, List.setIfInBounds_toArray, List.set_cons_zero, List.set_cons_succ])))
    refine Txt.tl_call Tryd.func19 (by kernel_rfl) (by kernel_rfl) (by rfl) (by rfl) (by rfl) (rsame_h _ a a2 n c n2 c2 l l2 G G2 T T2 A B2 Q Q2 Z Z2 m m2 Hr.out Hr2.out HI.out.ts.a1 HI.out.ts.a2 v Hv.out) ?_
    rintro e w8 ⟨rfl, k1⟩
    have HI : Hid _ := HI.out.calm k1
    clear k1
    refine ⟨_, rfl, HI.out, ?_⟩
    simp only [Act.put, List.setIfInBounds_toArray, List.set_cons_zero, List.set_cons_succ]
    (repeat (first | (refine Txt.tl_pure (v := ?_) (by rfl) ?_ ?_; rotate_left; (focus (intro _; go_simp; try with_reducible rfl)); simp only [Act.put, List.setIfInBounds_toArray, List.set_cons_zero, List.set_cons_succ]) | (refine Txt.tl_skip (by rfl) HI.out ?_; simp only [Act.put, List.setIfInBounds_toArray, List.set_cons_zero, List.set_cons_succ]) | (refine Txt.tl_rowSN (n := 38) (ty := 29) (by rfl) (by rfl) (by rfl) (fun _ h => h.ts.o1.all) (by kernel_rfl) (hd_len _ _ _ _ _ _ _ Hr.out) ?_; simp only [Act.put, List.setIfInBounds_toArray, List.set_cons_zero, List.set_cons_succ]) | (refine Txt.tl_rowSN (n := 38) (ty := 29) (by rfl) (by rfl) (by rfl) (fun _ h => h.ts.o2.all) (by kernel_rfl) (hd_len _ _ _ _ _ _ _ Hr2.out) ?_; simp only [Act.put, List.setIfInBounds_toArray, List.set_cons_zero, List.set_cons_succ]) | (refine Txt.tl_rowN (n := 38) (ty := 29) (by rfl) (by rfl) (by rfl) HI.out.ts.o1.all (by kernel_rfl) (hd_len _ _ _ _ _ _ _ Hr.out) ?_; simp only [Act.put, List.setIfInBounds_toArray, List.set_cons_zero, List.set_cons_succ]) | (refine Txt.tl_rowN (n := 38) (ty := 29) (by rfl) (by rfl) (by rfl) HI.out.ts.o2.all (by kernel_rfl) (hd_len _ _ _ _ _ _ _ Hr2.out) ?_; simp only [Act.put, List.setIfInBounds_toArray, List.set_cons_zero, List.set_cons_succ]) | (refine Txt.tl_rowSN (n := 32) (ty := 23) (by rfl) (by rfl) (by rfl) (fun _ h => rg h.i1) (by kernel_rfl) (by rw [List.length_map]; exact Hul.out) ?_; simp only [Act.put, List.setIfInBounds_toArray, List.set_cons_zero, List.set_cons_succ]) | (refine Txt.tl_rowSN (n := 32) (ty := 23) (by rfl) (by rfl) (by rfl) (fun _ h => rg h.i2) (by kernel_rfl) (by rw [List.length_map]; exact Hul.out) ?_; simp only [Act.put, List.setIfInBounds_toArray, List.set_cons_zero, List.set_cons_succ]) | (refine Txt.tl_rowN (n := 32) (ty := 23) (by rfl) (by rfl) (by rfl) (rg HI.out.i1) (by kernel_rfl) (by rw [List.length_map]; exact Hul.out) ?_; simp only [Act.put, List.setIfInBounds_toArray, List.set_cons_zero, List.set_cons_succ]) | (refine Txt.tl_rowN (n := 32) (ty := 23) (by rfl) (by rfl) (by rfl) (rg HI.out.i2) (by kernel_rfl) (by rw [List.length_map]; exact Hul.out) ?_; simp only [Act.put, List.setIfInBounds_toArray, List.set_cons_zero, List.set_cons_succ])))
    refine Txt.tl_call Tryd.func18 (by kernel_rfl) (by kernel_rfl) (by rfl) (by rfl) (by rfl) (same_h _ a a n c n c l l G G T T A A Q Q Z Z m m Hr.out Hr.out HI.out.ts.a1 HI.out.ts.a1 true (smh_self _ _ _ _ _ _ _)) ?_
    rintro e w9 ⟨rfl, k1⟩
    have HI : Hid _ := HI.out.calm k1
    clear k1
    refine ⟨_, rfl, HI.out, ?_⟩
    simp only [Act.put, List.setIfInBounds_toArray, List.set_cons_zero, List.set_cons_succ]
    (repeat (first | (refine Txt.tl_pure (v := ?_) (by rfl) ?_ ?_; rotate_left; (focus (intro _; go_simp; try with_reducible rfl)); simp only [Act.put, List.setIfInBounds_toArray, List.set_cons_zero, List.set_cons_succ]) | (refine Txt.tl_skip (by rfl) HI.out ?_; simp only [Act.put, List.setIfInBounds_toArray, List.set_cons_zero, List.set_cons_succ]) | (refine Txt.tl_rowSN (n := 38) (ty := 29) (by rfl) (by rfl) (by rfl) (fun _ h => h.ts.o1.all) (by kernel_rfl) (hd_len _ _ _ _ _ _ _ Hr.out) ?_; simp only [Act.put, List.setIfInBounds_toArray, List.set_cons_zero, List.set_cons_succ]) | (refine Txt.tl_rowSN (n := 38) (ty := 29) (by rfl) (by rfl) (by rfl) (fun _ h => h.ts.o2.all) (by kernel_rfl) (hd_len _ _ _ _ _ _ _ Hr2.out) ?_; simp only [Act.put, List.setIfInBounds_toArray, List.set_cons_zero, List.set_cons_succ]) | (refine Txt.tl_rowN (n := 38) (ty := 29) (by rfl) (by rfl) (by rfl) HI.out.ts.o1.all (by kernel_rfl) (hd_len _ _ _ _ _ _ _ Hr.out) ?_; simp only [Act.put, List.setIfInBounds_toArray, List.set_cons_zero, List.set_cons_succ]) | (refine Txt.tl_rowN (n := 38) (ty := 29) (by rfl) (by rfl) (by rfl) HI.out.ts.o2.all (by kernel_rfl) (hd_len _ _ _ _ _ _ _ Hr2.out) ?_; simp only [Act.put, List.setIfInBounds_toArray, List.set_cons_zero, List.set_cons_succ]) | (refine Txt.tl_rowSN (n := 32) (ty := 23) (by rfl) (by rfl) (by rfl) (fun _ h => rg h.i1) (by kernel_rfl) (by rw [List.length_map]; exact Hul.out) ?_; simp only [Act.put, List.setIfInBounds_toArray, List.set_cons_zero, List.set_cons_succ]) | (refine Txt.tl_rowSN (n := 32) (ty := 23) (by rfl) (by rfl) (by rfl) (fun _ h => rg h.i2) (by kernel_rfl) (by rw [List.length_map]; exact Hul.out) ?_; simp only [Act.put, List.setIfInBounds_toArray, List.set_cons_zero, List.set_cons_succ]) | (refine Txt.tl_rowN (n := 32) (ty := 23) (by rfl) (by rfl) (by rfl) (rg HI.out.i1) (by kernel_rfl) (by rw [List.length_map]; exact Hul.out) ?_; simp only [Act.put, List.setIfInBounds_toArray, List.set_cons_zero, List.set_cons_succ]) | (refine Txt.tl_rowN (n := 32) (ty := 23) (by rfl) (by rfl) (by rfl) (rg HI.out.i2) (by kernel_rfl) (by rw [List.length_map]; exact Hul.out) ?_; simp only [Act.put, List.setIfInBounds_toArray, List.set_cons_zero, List.set_cons_succ])))
    refine Txt.tl_call Tryd.func11 (by kernel_rfl) (by kernel_rfl) (by rfl) (by rfl) (by rfl) (awake_any _ HI.out.ts.tab.1 HI.out.ts.tab.2) ?_
    rintro e w10 ⟨rfl, k1⟩
    have HI : Hid _ := HI.out.calm k1
    clear k1
    refine ⟨_, rfl, HI.out, ?_⟩
    simp only [Act.put, List.setIfInBounds_toArray, List.set_cons_zero, List.set_cons_succ]
    (repeat (first | (refine Txt.tl_pure (v := ?_) (by rfl) ?_ ?_; rotate_left; (focus (intro _; go_simp; try with_reducible rfl)); simp only [Act.put, List.setIfInBounds_toArray, List.set_cons_zero, List.set_cons_succ]) | (refine Txt.tl_skip (by rfl) HI.out ?_; simp only [Act.put, List.setIfInBounds_toArray, List.set_cons_zero, List.set_cons_succ]) | (refine Txt.tl_rowSN (n := 38) (ty := 29) (by rfl) (by rfl) (by rfl) (fun _ h => h.ts.o1.all) (by kernel_rfl) (hd_len _ _ _ _ _ _ _ Hr.out) ?_; simp only [Act.put, List.setIfInBounds_toArray, List.set_cons_zero, List.set_cons_succ]) | (refine Txt.tl_rowSN (n := 38) (ty := 29) (by rfl) (by rfl) (by rfl) (fun _ h => h.ts.o2.all) (by kernel_rfl) (hd_len _ _ _ _ _ _ _ Hr2.out) ?_; simp only [Act.put, List.setIfInBounds_toArray, List.set_cons_zero, List.set_cons_succ]) | (refine Txt.tl_rowN (n := 38) (ty := 29) (by rfl) (by rfl) (by rfl) HI.out.ts.o1.all (by kernel_rfl) (hd_len _ _ _ _ _ _ _ Hr.out) ?_; simp only [Act.put, List.setIfInBounds_toArray, List.set_cons_zero, List.set_cons_succ]) | (refine Txt.tl_rowN (n := 38) (ty := 29) (by rfl) (by rfl) (by rfl) HI.out.ts.o2.all (by kernel_rfl) (hd_len _ _ _ _ _ _ _ Hr2.out) ?_; simp only [Act.put, List.setIfInBounds_toArray, List.set_cons_zero, List.set_cons_succ]) | (refine Txt.tl_rowSN (n := 32) (ty := 23) (by rfl) (by rfl) (by rfl) (fun _ h => rg h.i1) (by kernel_rfl) (by rw [List.length_map]; exact Hul.out) ?_; simp only [Act.put, List.setIfInBounds_toArray, List.set_cons_zero, List.set_cons_succ]) | (refine Txt.tl_rowSN (n := 32) (ty := 23) (by rfl) (by rfl) (by rfl) (fun _ h => rg h.i2) (by kernel_rfl) (by rw [List.length_map]; exact Hul.out) ?_; simp only [Act.put, List.setIfInBounds_toArray, List.set_cons_zero, List.set_cons_succ]) | (refine Txt.tl_rowN (n := 32) (ty := 23) (by rfl) (by rfl) (by rfl) (rg HI.out.i1) (by kernel_rfl) (by rw [List.length_map]; exact Hul.out) ?_; simp only [Act.put, List.setIfInBounds_toArray, List.set_cons_zero, List.set_cons_succ]) | (refine Txt.tl_rowN (n := 32) (ty := 23) (by rfl) (by rfl) (by rfl) (rg HI.out.i2) (by kernel_rfl) (by rw [List.length_map]; exact Hul.out) ?_; simp only [Act.put, List.setIfInBounds_toArray, List.set_cons_zero, List.set_cons_succ])))
    refine Txt.tl_nil ?_
    go_wp2
    go_ret
    exact ⟨rfl, Keep.below HI.out.ts.keep (Nat.le_refl _) (fun _ h => h.elim)⟩
  · have hgo' : 60 < n ∨ (n ≤ 60 ∧ 60 < n2) ∨ (n ≤ 60 ∧ n2 ≤ 60 ∧ 100 < T.size) := by omega
    clear hgo
    rcases hgo' with h | ⟨h, h'⟩ | ⟨h, h', h''⟩
    all_goals
      go_enter Tryd.func4, Tryd.ntmps4
      go_wp2_with (first | (go_at_call 11; refine (awake_any _ HS.out.tab.1 HS.out.tab.2).mono ?_; rintro e w5 ⟨rfl, k1⟩; have HS : Hid _ := HS.out.calm k1; clear k1))
      go_ret
      exact ⟨rfl, Keep.below HS.out.keep (Nat.le_refl _) (fun _ h => h.elim)⟩

set_option maxRecDepth 100000 in
theorem own : ownKnob Tryd.prog.godebug = none := by kernel_rfl
set_option maxRecDepth 100000 in
theorem laidOut : laidOutB Tryd.prog = true := by kernel_rfl
set_option maxRecDepth 100000 in
theorem contract (H : Type) (enc : TypeId × Value → H) (W : World) (base : Nat) (args : Array Value) (ds gs : List (DataW H)) (before : List MemPlace)
    (hval : ∀ (j : Nat) t v, Tryd.f4.params[j]? = some t → args[j]? = some v → Value.okWide Tryd.prog W .any base t v)
    (hW : DataW.Whole enc Tryd.prog Tryd.f4.params.toList Rows.headerPutsSpec.vars false W args.toList ds gs before) (hL : laidMetH Tryd.prog Rows.headerPutsRow.laid W) :
    Calls Tryd.prog 4 args W fun e W' => ∃ v, e = .returned v ∧ Rows.headerPutsSpec.post enc Tryd.prog Tryd.f4 false true false false W args v W' := by
  have hW' := hW
  have hTab := Lad.sha_of hL
  obtain ⟨p, q, hA0, hV, rfl, hfz, hnd⟩ := hW
  have hA : DataW.TrodAll enc Tryd.prog W 0 (fun _ => true) true Tryd.f4.params.toList args.toList ds p := hA0
  rw [Tryd.params4] at hA hval
  obtain ⟨rfl, rfl⟩ := trodVars_none hV
  obtain ⟨v0, vs0, d0, ds0, p0, q0, hargs, rfl, rfl, h0, r0⟩ := trodAll_cons hA
  obtain ⟨v1, vs1, d1, ds1, p1, q1, rfl, rfl, rfl, h1, r1⟩ := trodAll_cons r0
  obtain ⟨rfl, rfl, rfl⟩ := trodAll_nil r1
  obtain rfl : args = #[v0, v1] := by cases args; simp_all
  obtain ⟨x, rfl, f0, _⟩ := Opn.open_st Tryd.underlying29 rdH (hval 0 _ v0 rfl rfl) h0
  obtain ⟨y, rfl, f1, _⟩ := Opn.open_st Tryd.underlying29 rdH (hval 1 _ v1 rfl rfl) h1
  refine (walk x.2.1 y.2.1 x.2.2.1 y.2.2.1 x.2.2.2.1 y.2.2.2.1 x.2.2.2.2.1 y.2.2.2.2.1 x.2.2.2.2.2.1 y.2.2.2.2.2.1 x.2.2.2.2.2.2.1 y.2.2.2.2.2.2.1 x.1.a y.1.a x.1.len x.1.cap y.1.len y.1.cap x.1.els y.1.els W hTab f0.1 f1.1 f0.2.1 f1.2.1 f0.2.2.1).mono fun e W' ⟨he, bel⟩ => ?_
  subst he
  exact ⟨_, rfl, Opn.law_post laidOut (by kernel_rfl) rfl Tryd.underlying4 rfl rfl hW' bel⟩
set_option maxRecDepth 100000 in
theorem lifted (os : Os) (started : os.Started) (H : Type) (enc : TypeId × Value → H) :
    ReturnsInHanded {} Tryd.checked os 4 .any (fun w args => (Rows.headerPutsSpec.pre enc Tryd.prog Tryd.f4 [] false w args ∧ laidMetH Tryd.prog Rows.headerPutsRow.laid w) ∧ sizedMet enc Tryd.prog Tryd.f4 (OpenSpec.ofChange Rows.headerPutsSpec) false w args)
      (Rows.headerPutsSpec.post enc Tryd.prog Tryd.f4 false true false false) := by
  refine returnsInHanded_of_change_and (C := Tryd.checked) (X := fun w _ => laidMetH Tryd.prog Rows.headerPutsRow.laid w) (fun _ _ _ hh h => h.of_heap hh) own started (by kernel_rfl) Tryd.func4
    (ChangeSpec.witness_shaped (enc := enc) (C := Tryd.checked) (os := os) (X := fun w _ => laidMetH Tryd.prog Rows.headerPutsRow.laid w) false (World.laidAll Tryd.prog os Rows.headerPutsRow.laid) #[.agg hz0, .agg hz0] 8 (World.laidAll_os _ _ _)
      (World.shaped_of_ZipB (by kernel_rfl) (by kernel_rfl)) (by kernel_rfl) (by kernel_rfl) (by kernel_rfl)
      (by rw [MakeChecks.laidMetH_plain _ _ _ (by kernel_rfl)]; exact laidMet_laidAll _ (by kernel_rfl) (by kernel_rfl))) ?_
  intro W base args ds gs before hval0 hW _ _ hL _
  exact contract H enc W base args ds gs before hval0 hW hL
theorem over : Rows.headerPutsRow.holds Tryd.pinned (OpenSpec.ofChange Rows.headerPutsSpec) :=
  OpenClaim.holds_of_wide 4 Tryd.f4 rfl rfl rfl rfl rfl rfl rfl ⟨rfl, rfl, rfl, rfl, rfl⟩ rfl rfl rfl rfl rfl (by kernel_rfl) Tryd.func4 (by kernel_rfl)
    (of_decide_eq_true (by kernel_rfl)) (by unfold Func.isWrapper; first | (rw [if_pos (by decide +kernel)]; kernel_rfl) | (rw [if_neg (by decide +kernel)]; exact ⟨rfl, rfl⟩))
    (fun os started H enc _ => lifted os started H enc)
theorem proved : Rows.HeaderPutsCardSaid :=
  Claim7.holds_tied_plain_at .later [] [.data, .data] true _ false over (fun _ h => by cases h) (by kernel_rfl) (fun _ h => by cases h) headerPuts_row_tie rfl ⟨rfl, rfl⟩ (by kernel_rfl) rfl
    (fun f fn hf hfn => by
      obtain rfl : f = 4 := Option.some.inj ((show Tryd.prog.funcNamed "petrel/petrellaw08.HeaderPuts" = some 4 by kernel_rfl).symm.trans hf) |>.symm
      obtain rfl : fn = Tryd.f4 := (Option.some.inj (Tryd.func4.symm.trans hfn)).symm
      exact ⟨by kernel_rfl, fun j t ht => by
        rw [Tryd.params4] at ht
        have hm : t ∈ [29, 29] := by simpa using Array.mem_of_getElem? ht
        have hall : ([29, 29].all fun u => !Tryd.prog.wantsStandIn u) = true := by kernel_rfl
        exact (show Tryd.prog.wantsStandIn t = false by simpa using List.all_eq_true.1 hall t hm)⟩)
    (by kernel_rfl)
end HeaderPuts
end Go.Proofs.YthdjbpimjbkajaaDoor
