/-
  op.id, op.take: what is read of an operation.
-/
import Derived.Test.YtfoplimdbapdfaaDoorOxC
import Derived.Test.YtfoplimdbapdfaaDoorGId
import Derived.Test.YtfoplimdbapdfaaDoorGTx
set_option linter.unusedVariables false
set_option linter.unusedSimpArgs false
namespace Go.Proofs.YtfoplimdbapdfaaDoor
open Go.RowKit
namespace Ox
open Oct Ids
open Mem (M blk rd ids)

theorem tyI : St.Ty 24 32 z32 := ⟨⟨_, Tryd.underlying24, rfl⟩, by kernel_rfl, rfl⟩
/-- What is read of a ref, a text, a number, ids. -/
def rdR (s : ByteArray) (a : Nat) (b : Int) (p : Bool) : List UInt8 × Nat × Int := match p with | true => (pad (rraw s a b 32).1.data.toList, (rraw s a b 32).2.1, (rraw s a b 32).2.2) | false => (Z32, a, b)
def rdT (s : ByteArray) (a : Nat) (b : Int) (p : Bool) : ByteArray × Nat × Int := match p with | true => rraw s (rnum s a b 1).2.1 (rnum s a b 1).2.2 (rnum s a b 1).1 | false => (ByteArray.empty, a, b)
def rdN (s : ByteArray) (a : Nat) (b : Int) (p : Bool) : Nat × Nat × Int := match p with | true => rnum s a b 4 | false => (0, a, b)
def rdS (s : ByteArray) (a : Nat) (b : Int) (p : Bool) : List (List UInt8) × Nat × Int := match p with | true => rdIds s (rnum s a b 1).2.1 (rnum s a b 1).2.2 (rnum s a b 1).1 | false => ([], a, b)
def nv (K : Int) (n : Nat) : Int := if iN K = true then (n : Int) - shf K else 0
theorem rnum4_lt (s : ByteArray) (a : Nat) (b : Int) : (rnum s a b 4).1 < 4294967296 := by
  unfold rnum
  split
  · exact (by decide : 0 < 4294967296)
  · split
    · exact (by decide : 0 < 4294967296)
    · refine Nat.lt_of_lt_of_le (natOf_lt _) (Nat.le_trans (Nat.pow_le_pow_right (by omega) (show (rraw s a 0 4).1.data.toList.length ≤ 4 from ?_)) (by decide))
      rw [Array.length_toList]
      show (rraw s a 0 4).1.size ≤ 4
      unfold rraw
      split
      · exact Nat.zero_le _
      · split
        · exact Nat.zero_le _
        · split
          · exact Nat.zero_le _
          · rw [ByteArray.size_extract]; omega
set_option maxRecDepth 100000 in
set_option maxHeartbeats 1000000 in
theorem id_any (w : World) (b : Nat) (s : ByteArray) (a : Nat) (bad : Int) (x : ByteArray) (a' : Nat) (b' : Int) (h : IsR w b s a bad) (hv : rraw s a bad 32 = (x, a', b')) :
    Calls Tryd.prog 77 #[.pointer (some ⟨b, 0, none⟩)] w fun e w' => e = .returned (idv (pad x.data.toList)) ∧ IsR w' b s a' b' ∧ Keep (fun k => k = b) w w' := by
  have hx : x.size ≤ 32 := by have := rraw_32 s a bad; rw [hv] at this; exact this
  have Hv : Hid _ := hv
  have Hpl : Hid ((pad x.data.toList).length = 32) := pad_len x.data.toList (by rw [Array.length_toList]; exact hx)
  have hbw := lt_of_block h.blk
  have HM : Hid (M (fun k => k = b) w _ [rd b s a bad, blk w.heap.size (.cells z32 24), blk (w.heap.size + 1) (.cells z32 24)]) := ((M.start1 (x := rd b s a bad) h (fun k hk => by cases hk; exact hbw)).alloc (.cells z32 24) rfl).alloc (.cells z32 24) (by simp)
  clear h hv
  go_enter Tryd.func77, Tryd.ntmps77
  go_wp2_with (first | (refine St.wl_alloc tyI rfl rfl (by (try simp only [World.size_alloc]); rfl) ?_; simp only [Act.put, List.setIfInBounds_toArray, List.set_cons_zero, List.set_cons_succ]) | ((fail_if_success go_not_at_region 2); refine Txt.wp_region_text (id := 2) (fun _ => True) [0, 0, 4, 4] (by kernel_rfl) (by kernel_rfl) trivial ?_; have HM : Hid _ := HM.out.drew; (repeat (first | (refine Txt.tl_pure (v := ?_) (by rfl) ?_ ?_; rotate_left; (focus (intro _; go_simp; try with_reducible rfl)); simp only [Act.put, List.setIfInBounds_toArray, List.set_cons_zero, List.set_cons_succ]) | (refine Txt.tl_skip (by rfl) (by first | trivial | exact HS.out) ?_; simp only [Act.put, List.setIfInBounds_toArray, List.set_cons_zero, List.set_cons_succ]) | (refine Txt.tl_load (v := ?_) (by rfl) (by rfl) (by rfl) (by kernel_rfl) ?_ ?_; rotate_left; (focus (first | assumption | (go_simp; done) | (go_simp; with_reducible rfl))); simp only [Act.put, List.setIfInBounds_toArray, List.set_cons_zero, List.set_cons_succ]) | (refine Txt.tl_loadB (v := ?_) (by rfl) (by rfl) (by rfl) (by kernel_rfl) ?_ ?_; rotate_left; (focus assumption); simp only [Act.put, List.setIfInBounds_toArray, List.set_cons_zero, List.set_cons_succ]))); refine Txt.tl_call Tryd.func70 (by kernel_rfl) (by kernel_rfl) (by rfl) (by rfl) (by rfl) (M.rraw HM.out 0 rfl Hv.out) ?_; rintro e w1 ⟨rfl, h1⟩; have HM : Hid _ := h1; clear h1; refine ⟨_, rfl, trivial, ?_⟩; simp only [Act.put, List.setIfInBounds_toArray, List.set_cons_zero, List.set_cons_succ]; (repeat (first | (refine Txt.tl_pure (v := ?_) (by rfl) ?_ ?_; rotate_left; (focus (intro _; go_simp; try with_reducible rfl)); simp only [Act.put, List.setIfInBounds_toArray, List.set_cons_zero, List.set_cons_succ]) | (refine Txt.tl_skip (by rfl) (by first | trivial | exact HS.out) ?_; simp only [Act.put, List.setIfInBounds_toArray, List.set_cons_zero, List.set_cons_succ]) | (refine Txt.tl_load (v := ?_) (by rfl) (by rfl) (by rfl) (by kernel_rfl) ?_ ?_; rotate_left; (focus (first | assumption | (go_simp; done) | (go_simp; with_reducible rfl))); simp only [Act.put, List.setIfInBounds_toArray, List.set_cons_zero, List.set_cons_succ]) | (refine Txt.tl_loadB (v := ?_) (by rfl) (by rfl) (by rfl) (by kernel_rfl) ?_ ?_; rotate_left; (focus assumption); simp only [Act.put, List.setIfInBounds_toArray, List.set_cons_zero, List.set_cons_succ]))); refine Txt.tl_loud (by rfl) ?_; refine wp_copy rfl rfl rfl hx (HM.out.get 2 rfl) ?_; intro w3 h3 k3; have HM : Hid (M (fun k => k = b) w w3 [rd b s a' b', blk w.heap.size (.cells z32 24), blk (w.heap.size + 1) (.cells ((pad x.data.toList).map bv).toArray 24)]) := HM.out.upd 2 rfl k3 (fun _ h => h) (y := blk (w.heap.size + 1) (.cells ((pad x.data.toList).map bv).toArray 24)) h3 (fun k hk => .inl hk); clear h3 k3; refine ⟨trivial, ?_⟩; simp only [Act.put, List.setIfInBounds_toArray, List.set_cons_zero, List.set_cons_succ]; (repeat (first | (refine Txt.tl_pure (v := ?_) (by rfl) ?_ ?_; rotate_left; (focus (intro _; go_simp; try with_reducible rfl)); simp only [Act.put, List.setIfInBounds_toArray, List.set_cons_zero, List.set_cons_succ]) | (refine Txt.tl_skip (by rfl) (by first | trivial | exact HS.out) ?_; simp only [Act.put, List.setIfInBounds_toArray, List.set_cons_zero, List.set_cons_succ]) | (refine Txt.tl_load (v := ?_) (by rfl) (by rfl) (by rfl) (by kernel_rfl) ?_ ?_; rotate_left; (focus (first | assumption | (go_simp; done) | (go_simp; with_reducible rfl))); simp only [Act.put, List.setIfInBounds_toArray, List.set_cons_zero, List.set_cons_succ]) | (refine Txt.tl_loadB (v := ?_) (by rfl) (by rfl) (by rfl) (by kernel_rfl) ?_ ?_; rotate_left; (focus assumption); simp only [Act.put, List.setIfInBounds_toArray, List.set_cons_zero, List.set_cons_succ]))); refine Txt.tl_nil ?_) | (refine St.wl_load tyI (by rfl) rfl rfl (HM.out.range 2 rfl) (by rw [List.length_map]; exact Hpl.out) ?_; simp only [Act.put, List.setIfInBounds_toArray, List.set_cons_zero, List.set_cons_succ]) | (refine St.wl_store tyI rfl rfl rfl rfl rfl (by rw [List.size_toArray, List.length_map]; exact Hpl.out) (one_bv _) (HM.out.get 1 rfl) (by simp) ?_; have HM : Hid _ := HM.out.setr 1 rfl ((pad x.data.toList).map bv).toArray))
  refine bodyPost_ret (St.res1 tyI rfl _ _ w.heap.size _ (by rw [List.size_toArray, List.length_map]; exact Hpl.out) rfl (HM.out.get 1 rfl)) rfl ?_
  exact ⟨rfl, HM.out.get 0 rfl, HM.out.keep⟩
section
variable {F : Nat → Prop} {w0 w : World} {l : List Mem.It}
theorem oid_m (h : M F w0 w l) (i : Nat) {b : Nat} {s : ByteArray} {a : Nat} {bad : Int} (hi : l[i]? = some (rd b s a bad)) {x : ByteArray} {a' : Nat} {b' : Int} (hv : rraw s a bad 32 = (x, a', b')) {r : List UInt8} (hr : pad x.data.toList = r) :
    Calls Tryd.prog 77 #[.pointer (some ⟨b, 0, none⟩)] w fun e w' => e = .returned (idv r) ∧ M F w0 w' (l.set i (rd b s a' b')) := by
  subst hr
  refine (id_any w b s a bad x a' b' (h.get i hi) hv).mono ?_
  rintro e w' ⟨rfl, h1, k1⟩
  exact ⟨rfl, h.upd i hi k1 (fun _ h => h) (y := rd b s a' b') h1 (fun k hk => .inl hk)⟩
end
theorem oc_one (K N : Int) (Y V : ByteArray) (r : List UInt8) (a : Option Addr) (n c : Nat) : (oc K N Y V r (.slice a n c)).toArray.all (·.oneCell') = true := by unfold oc; simp [bv, Value.oneCell']
theorem oc_sz {K N : Int} {Y V : ByteArray} {r : List UInt8} {rv : Value} (hr : r.length = 32) : (oc K N Y V r rv).toArray.size = 37 := by rw [List.size_toArray, oc_len _ _ _ _ _ _ hr]
theorem oc_mid (K N : Int) (Y V : ByteArray) (r d : List UInt8) (rv : Value) (hr : r.length = 32) : ((oc K N Y V r rv).toArray.toList.take 4 ++ (d.map bv).toArray.toList ++ (oc K N Y V r rv).toArray.toList.drop (4 + 32)).toArray = (oc K N Y V d rv).toArray := by
  refine congrArg List.toArray ?_
  have h1 : (oc K N Y V r rv).take 4 = [.int .i64 K, .int .i64 N, .string Y, .string V] := rfl
  have h2 : (oc K N Y V r rv).drop (4 + 32) = [rv] := by
    have e : (oc K N Y V r rv).drop 4 = r.map bv ++ [rv] := rfl
    rw [← List.drop_drop, e, List.drop_append_of_le_length (by simp [hr]), List.drop_eq_nil_of_le (by simp [hr])]
    rfl
  rw [h1, h2]
  unfold oc
  simp
theorem oc_refs (K N : Int) (Y V : ByteArray) (r : List UInt8) (rv v : Value) (hr : r.length = 32) : (oc K N Y V r rv).toArray.setIfInBounds 36 v = (oc K N Y V r v).toArray := by
  rw [List.setIfInBounds_toArray]
  refine congrArg List.toArray ?_
  unfold oc
  rw [List.set_append_right _ _ (by simp), List.set_append_right _ _ (by simp [hr])]
  simp [hr]
theorem oc_36 (K N : Int) (Y V : ByteArray) (r : List UInt8) (rv : Value) (hr : r.length = 32) : (oc K N Y V r rv).toArray[36]? = some rv := by
  rw [List.getElem?_toArray]
  unfold oc
  rw [List.getElem?_append_right (by simp), List.getElem?_append_right (by simp [hr])]
  simp [hr]
/-- The operation that is being read, and what lies beside it. -/
theorem set_refs {F : Nat → Prop} {w0 w : World} {it : List Mem.It} (h : M F w0 w it) (i : Nat) {b : Nat} {K N : Int} {Y V : ByteArray} {r : List UInt8} {rv : Value} (hi : it[i]? = some (blk b (.cells (oc K N Y V r rv).toArray 27))) (hr : r.length = 32) (v : Value) :
    M F w0 (w.setCell ⟨b, 36, none⟩ v) (it.set i (blk b (.cells (oc K N Y V r v).toArray 27))) := by
  have := h.setc i hi 36 v
  rwa [oc_refs _ _ _ _ _ _ _ hr] at this
set_option maxRecDepth 100000 in
set_option maxHeartbeats 4000000 in
theorem take_1 (w : World) (hT : TabP w) (b : Nat) (s : ByteArray) (a a1 a2 a3 a4 a5 : Nat) (bad b1 b2 b3 b4 b5 : Int) (r : List UInt8) (Y V : ByteArray) (m : Nat) (l : List (List UInt8)) (h : IsR w b s a bad) (hbt : b ≠ 0) (hR : rdR s a bad (iR 1) = (r, a1, b1)) (hY : rdT s a1 b1 (iK 1) = (Y, a2, b2)) (hV : rdT s a2 b2 (iV 1) = (V, a3, b3)) (hN : rdN s a3 b3 (iN 1) = (m, a4, b4)) (hS : rdS s a4 b4 (iS 1) = (l, a5, b5)) :
    Calls Tryd.prog 40 #[.pointer (some ⟨b, 0, none⟩), .int .i64 1] w fun e w' => ∃ v, e = .returned (.agg (oc 1 (nv 1 m) Y V r v).toArray) ∧ Own w' v l ∧ IsR w' b s a5 b5 ∧ Keep (fun k => k = b) w w' ∧ (∀ k, v.ownBlock = some k → w.heap.size ≤ k) := by
  have h' : (Z32, a, bad) = (r, a1, b1) := hR
  simp only [Prod.mk.injEq] at h'
  obtain ⟨e1, e2, e3⟩ := h'
  subst e1
  replace e2 := e2.symm
  replace e3 := e3.symm
  subst e2 e3
  clear hR
  have Hr : Hid (Z32.length = 32) := (rfl : Z32.length = 32)
  have h' : ((ByteArray.empty : ByteArray), a1, b1) = (Y, a2, b2) := hY
  simp only [Prod.mk.injEq] at h'
  obtain ⟨e1, e2, e3⟩ := h'
  subst e1
  replace e2 := e2.symm
  replace e3 := e3.symm
  subst e2 e3
  clear hY
  have h' : ((ByteArray.empty : ByteArray), a2, b2) = (V, a3, b3) := hV
  simp only [Prod.mk.injEq] at h'
  obtain ⟨e1, e2, e3⟩ := h'
  subst e1
  replace e2 := e2.symm
  replace e3 := e3.symm
  subst e2 e3
  clear hV
  have hm4 : m < 4294967296 := by have := rnum4_lt s a3 b3; rw [show rnum s a3 b3 4 = (m, a4, b4) from hN] at this; exact this
  have HnN : Hid (rnum s a3 b3 4 = (m, a4, b4)) := hN
  clear hN
  have h' : (([] : List (List UInt8)), a4, b4) = (l, a5, b5) := hS
  simp only [Prod.mk.injEq] at h'
  obtain ⟨e1, e2, e3⟩ := h'
  subst e1
  replace e2 := e2.symm
  replace e3 := e3.symm
  subst e2 e3
  clear hS
  obtain ⟨m1, hm1⟩ : ∃ m1, (m : Int) - 2147483648 = m1 := ⟨_, rfl⟩
  have hw : IntKind.i64.wrap ((m : Int) - 2147483648) = m1 := by rw [hm1]; exact IntWalk.i64_in _ (by omega)
  have HNv : Hid (nv 1 m = m1) := hm1
  clear hm1
  rw [HNv.out]
  have hbw := lt_of_block h.blk
  have HT : Hid (TabP w) := hT
  have HB : Hid (b ≠ 0) := hbt
  have HM : Hid (M (fun k => k = b) w _ [rd b s _ _, blk w.heap.size (.cells (oc 0 0 ByteArray.empty ByteArray.empty Z32 (.slice none 0 0)).toArray 27), blk (w.heap.size + 1) (.cells (oc 1 0 ByteArray.empty ByteArray.empty Z32 (.slice none 0 0)).toArray 27)]) := ((M.start1 (x := rd b s _ _) h (fun k hk => by cases hk; exact hbw)).alloc (.cells (oc 0 0 ByteArray.empty ByteArray.empty Z32 (.slice none 0 0)).toArray 27) rfl).alloc (.cells (oc 1 0 ByteArray.empty ByteArray.empty Z32 (.slice none 0 0)).toArray 27) (by simp)
  clear h hT hbt
  go_enter Tryd.func40, Tryd.ntmps40
  go_wp2_with (first | (refine St.wl_alloc tyO rfl rfl (by (try simp only [World.size_alloc]); rfl) ?_; simp only [Act.put, List.setIfInBounds_toArray, List.set_cons_zero, List.set_cons_succ]) | (refine St.wl_buildV rfl rfl (cs := (oc 1 0 ByteArray.empty ByteArray.empty Z32 (.slice none 0 0)).toArray) (by kernel_rfl) ?_; simp only [Act.put, List.setIfInBounds_toArray, List.set_cons_zero, List.set_cons_succ]) | (refine St.wl_storeN tyO rfl rfl rfl rfl rfl (by (try simp only [World.size_alloc])) (show _ = Value.agg (oc 1 0 ByteArray.empty ByteArray.empty Z32 (.slice none 0 0)).toArray from rfl) (oc_sz rfl) (oc_sz rfl) (oc_one _ _ _ _ _ _ _ _) ?_; have f1 := HM.out.free 2 rfl 1; have f2 := HM.out.free 2 rfl 2; have f3 := HM.out.free 2 rfl 3; have c1 := HM.out.cell 2 rfl 1 rfl; have c2 := HM.out.cell 2 rfl 2 rfl; have c3 := HM.out.cell 2 rfl 3 rfl) | (go_at_call 39; refine (of_any _ (HT.out.keep HM.out.keep (fun e => HB.out e.symm)) 1).mono ?_; rw [show pk 1 = 1 from rfl]; rintro e w9 ⟨rfl, rfl⟩) | (go_at_call_has 37 (Value.int .i64 4); refine (M.rnum HM.out 0 rfl HnN.out).mono ?_; rintro e w3 ⟨rfl, h1⟩; have HM : Hid _ := h1; clear h1) | (go_at_call 78; refine (shift_1 _).mono ?_; rintro e w4 ⟨rfl, rfl⟩; have f1 := HM.out.free 2 rfl 1; have f2 := HM.out.free 2 rfl 2; have f3 := HM.out.free 2 rfl 3; have c1 := HM.out.cell 2 rfl 1 rfl; have c2 := HM.out.cell 2 rfl 2 rfl; have c3 := HM.out.cell 2 rfl 3 rfl; have HM : Hid (M (fun k => k = b) w _ [rd b s _ _, blk w.heap.size (.cells (oc 0 0 ByteArray.empty ByteArray.empty Z32 (.slice none 0 0)).toArray 27), blk (w.heap.size + 1) (.cells (oc 1 m1 ByteArray.empty ByteArray.empty Z32 (.slice none 0 0)).toArray 27)]) := HM.out.setc 2 rfl 1 (.int .i64 m1); have f1 := HM.out.free 2 rfl 1; have f2 := HM.out.free 2 rfl 2; have f3 := HM.out.free 2 rfl 3; have c1 := HM.out.cell 2 rfl 1 rfl; have c2 := HM.out.cell 2 rfl 2 rfl; have c3 := HM.out.cell 2 rfl 3 rfl) | (refine St.wl_load tyO (by rfl) rfl rfl (HM.out.range 2 rfl) (oc_len _ _ _ _ _ _ Hr.out) ?_; simp only [Act.put, List.setIfInBounds_toArray, List.set_cons_zero, List.set_cons_succ]) | (refine St.wl_store tyO rfl rfl rfl rfl rfl (oc_sz Hr.out) (oc_one _ _ _ _ _ _ _ _) (HM.out.get 1 rfl) (oc_sz rfl) ?_))
  refine bodyPost_ret (St.res1 tyO rfl _ _ w.heap.size _ (oc_sz Hr.out) rfl ((HM.out.setr 1 rfl (oc 1 m1 ByteArray.empty ByteArray.empty Z32 (.slice none 0 0)).toArray).get 1 rfl)) rfl ?_
  exact ⟨_, rfl, Own.nil _, (HM.out.setr 1 rfl (oc 1 m1 ByteArray.empty ByteArray.empty Z32 (.slice none 0 0)).toArray).get 0 rfl, (HM.out.setr 1 rfl (oc 1 m1 ByteArray.empty ByteArray.empty Z32 (.slice none 0 0)).toArray).keep, fun k hk => by simp [Value.ownBlock] at hk⟩
set_option maxRecDepth 100000 in
set_option maxHeartbeats 4000000 in
theorem take_2 (w : World) (hT : TabP w) (b : Nat) (s : ByteArray) (a a1 a2 a3 a4 a5 : Nat) (bad b1 b2 b3 b4 b5 : Int) (r : List UInt8) (Y V : ByteArray) (m : Nat) (l : List (List UInt8)) (h : IsR w b s a bad) (hbt : b ≠ 0) (hR : rdR s a bad (iR 2) = (r, a1, b1)) (hY : rdT s a1 b1 (iK 2) = (Y, a2, b2)) (hV : rdT s a2 b2 (iV 2) = (V, a3, b3)) (hN : rdN s a3 b3 (iN 2) = (m, a4, b4)) (hS : rdS s a4 b4 (iS 2) = (l, a5, b5)) :
    Calls Tryd.prog 40 #[.pointer (some ⟨b, 0, none⟩), .int .i64 2] w fun e w' => ∃ v, e = .returned (.agg (oc 2 (nv 2 m) Y V r v).toArray) ∧ Own w' v l ∧ IsR w' b s a5 b5 ∧ Keep (fun k => k = b) w w' ∧ (∀ k, v.ownBlock = some k → w.heap.size ≤ k) := by
  have h' : (Z32, a, bad) = (r, a1, b1) := hR
  simp only [Prod.mk.injEq] at h'
  obtain ⟨e1, e2, e3⟩ := h'
  subst e1
  replace e2 := e2.symm
  replace e3 := e3.symm
  subst e2 e3
  clear hR
  have Hr : Hid (Z32.length = 32) := (rfl : Z32.length = 32)
  have h' : ((ByteArray.empty : ByteArray), a1, b1) = (Y, a2, b2) := hY
  simp only [Prod.mk.injEq] at h'
  obtain ⟨e1, e2, e3⟩ := h'
  subst e1
  replace e2 := e2.symm
  replace e3 := e3.symm
  subst e2 e3
  clear hY
  obtain ⟨⟨nV, aV, bV⟩, hn⟩ : ∃ p, rnum s a2 b2 1 = p := ⟨_, rfl⟩
  have hr' : rraw s aV bV nV = (V, a3, b3) := by have := hV; unfold rdT at this; simp only [hn] at this; exact this
  have HnV : Hid _ := hn
  have HrV : Hid _ := hr'
  clear hn hr' hV
  have h' : ((0 : Nat), a3, b3) = (m, a4, b4) := hN
  simp only [Prod.mk.injEq] at h'
  obtain ⟨e1, e2, e3⟩ := h'
  subst e1
  replace e2 := e2.symm
  replace e3 := e3.symm
  subst e2 e3
  clear hN
  have h' : (([] : List (List UInt8)), a4, b4) = (l, a5, b5) := hS
  simp only [Prod.mk.injEq] at h'
  obtain ⟨e1, e2, e3⟩ := h'
  subst e1
  replace e2 := e2.symm
  replace e3 := e3.symm
  subst e2 e3
  clear hS
  have HNv : Hid (nv 2 0 = 0) := (rfl : nv 2 0 = 0)
  rw [HNv.out]
  have hbw := lt_of_block h.blk
  have HT : Hid (TabP w) := hT
  have HB : Hid (b ≠ 0) := hbt
  have HM : Hid (M (fun k => k = b) w _ [rd b s _ _, blk w.heap.size (.cells (oc 0 0 ByteArray.empty ByteArray.empty Z32 (.slice none 0 0)).toArray 27), blk (w.heap.size + 1) (.cells (oc 2 0 ByteArray.empty ByteArray.empty Z32 (.slice none 0 0)).toArray 27)]) := ((M.start1 (x := rd b s _ _) h (fun k hk => by cases hk; exact hbw)).alloc (.cells (oc 0 0 ByteArray.empty ByteArray.empty Z32 (.slice none 0 0)).toArray 27) rfl).alloc (.cells (oc 2 0 ByteArray.empty ByteArray.empty Z32 (.slice none 0 0)).toArray 27) (by simp)
  clear h hT hbt
  go_enter Tryd.func40, Tryd.ntmps40
  go_wp2_with (first | (refine St.wl_alloc tyO rfl rfl (by (try simp only [World.size_alloc]); rfl) ?_; simp only [Act.put, List.setIfInBounds_toArray, List.set_cons_zero, List.set_cons_succ]) | (refine St.wl_buildV rfl rfl (cs := (oc 2 0 ByteArray.empty ByteArray.empty Z32 (.slice none 0 0)).toArray) (by kernel_rfl) ?_; simp only [Act.put, List.setIfInBounds_toArray, List.set_cons_zero, List.set_cons_succ]) | (refine St.wl_storeN tyO rfl rfl rfl rfl rfl (by (try simp only [World.size_alloc])) (show _ = Value.agg (oc 2 0 ByteArray.empty ByteArray.empty Z32 (.slice none 0 0)).toArray from rfl) (oc_sz rfl) (oc_sz rfl) (oc_one _ _ _ _ _ _ _ _) ?_; have f1 := HM.out.free 2 rfl 1; have f2 := HM.out.free 2 rfl 2; have f3 := HM.out.free 2 rfl 3; have c1 := HM.out.cell 2 rfl 1 rfl; have c2 := HM.out.cell 2 rfl 2 rfl; have c3 := HM.out.cell 2 rfl 3 rfl) | (go_at_call 39; refine (of_any _ (HT.out.keep HM.out.keep (fun e => HB.out e.symm)) 2).mono ?_; rw [show pk 2 = 4 from rfl]; rintro e w9 ⟨rfl, rfl⟩) | (go_at_call_has 70 (Value.int .i64 nV); refine (M.rraw HM.out 0 rfl HrV.out).mono ?_; rintro e w2 ⟨rfl, h1⟩; have HM : Hid _ := h1; clear h1; have f1 := HM.out.free 2 rfl 1; have f2 := HM.out.free 2 rfl 2; have f3 := HM.out.free 2 rfl 3; have c1 := HM.out.cell 2 rfl 1 rfl; have c2 := HM.out.cell 2 rfl 2 rfl; have c3 := HM.out.cell 2 rfl 3 rfl; have HM : Hid (M (fun k => k = b) w _ [rd b s _ _, blk w.heap.size (.cells (oc 0 0 ByteArray.empty ByteArray.empty Z32 (.slice none 0 0)).toArray 27), blk (w.heap.size + 1) (.cells (oc 2 0 ByteArray.empty V Z32 (.slice none 0 0)).toArray 27)]) := HM.out.setc 2 rfl 3 (.string V); have f1 := HM.out.free 2 rfl 1; have f2 := HM.out.free 2 rfl 2; have f3 := HM.out.free 2 rfl 3; have c1 := HM.out.cell 2 rfl 1 rfl; have c2 := HM.out.cell 2 rfl 2 rfl; have c3 := HM.out.cell 2 rfl 3 rfl) | (go_at_call_has 37 (Value.int .i64 1); (first | (with_reducible refine (M.rnum HM.out 0 rfl HnV.out).mono ?_)); rintro e w5 ⟨rfl, h1⟩; have HM : Hid _ := h1; clear h1) | (refine St.wl_load tyO (by rfl) rfl rfl (HM.out.range 2 rfl) (oc_len _ _ _ _ _ _ Hr.out) ?_; simp only [Act.put, List.setIfInBounds_toArray, List.set_cons_zero, List.set_cons_succ]) | (refine St.wl_store tyO rfl rfl rfl rfl rfl (oc_sz Hr.out) (oc_one _ _ _ _ _ _ _ _) (HM.out.get 1 rfl) (oc_sz rfl) ?_))
  refine bodyPost_ret (St.res1 tyO rfl _ _ w.heap.size _ (oc_sz Hr.out) rfl ((HM.out.setr 1 rfl (oc 2 0 ByteArray.empty V Z32 (.slice none 0 0)).toArray).get 1 rfl)) rfl ?_
  exact ⟨_, rfl, Own.nil _, (HM.out.setr 1 rfl (oc 2 0 ByteArray.empty V Z32 (.slice none 0 0)).toArray).get 0 rfl, (HM.out.setr 1 rfl (oc 2 0 ByteArray.empty V Z32 (.slice none 0 0)).toArray).keep, fun k hk => by simp [Value.ownBlock] at hk⟩
set_option maxRecDepth 100000 in
set_option maxHeartbeats 4000000 in
theorem take_3 (w : World) (hT : TabP w) (b : Nat) (s : ByteArray) (a a1 a2 a3 a4 a5 : Nat) (bad b1 b2 b3 b4 b5 : Int) (r : List UInt8) (Y V : ByteArray) (m : Nat) (l : List (List UInt8)) (h : IsR w b s a bad) (hbt : b ≠ 0) (hR : rdR s a bad (iR 3) = (r, a1, b1)) (hY : rdT s a1 b1 (iK 3) = (Y, a2, b2)) (hV : rdT s a2 b2 (iV 3) = (V, a3, b3)) (hN : rdN s a3 b3 (iN 3) = (m, a4, b4)) (hS : rdS s a4 b4 (iS 3) = (l, a5, b5)) :
    Calls Tryd.prog 40 #[.pointer (some ⟨b, 0, none⟩), .int .i64 3] w fun e w' => ∃ v, e = .returned (.agg (oc 3 (nv 3 m) Y V r v).toArray) ∧ Own w' v l ∧ IsR w' b s a5 b5 ∧ Keep (fun k => k = b) w w' ∧ (∀ k, v.ownBlock = some k → w.heap.size ≤ k) := by
  have h' : (Z32, a, bad) = (r, a1, b1) := hR
  simp only [Prod.mk.injEq] at h'
  obtain ⟨e1, e2, e3⟩ := h'
  subst e1
  replace e2 := e2.symm
  replace e3 := e3.symm
  subst e2 e3
  clear hR
  have Hr : Hid (Z32.length = 32) := (rfl : Z32.length = 32)
  have h' : ((ByteArray.empty : ByteArray), a1, b1) = (Y, a2, b2) := hY
  simp only [Prod.mk.injEq] at h'
  obtain ⟨e1, e2, e3⟩ := h'
  subst e1
  replace e2 := e2.symm
  replace e3 := e3.symm
  subst e2 e3
  clear hY
  obtain ⟨⟨nV, aV, bV⟩, hn⟩ : ∃ p, rnum s a2 b2 1 = p := ⟨_, rfl⟩
  have hr' : rraw s aV bV nV = (V, a3, b3) := by have := hV; unfold rdT at this; simp only [hn] at this; exact this
  have HnV : Hid _ := hn
  have HrV : Hid _ := hr'
  clear hn hr' hV
  have h' : ((0 : Nat), a3, b3) = (m, a4, b4) := hN
  simp only [Prod.mk.injEq] at h'
  obtain ⟨e1, e2, e3⟩ := h'
  subst e1
  replace e2 := e2.symm
  replace e3 := e3.symm
  subst e2 e3
  clear hN
  obtain ⟨⟨nS, aS, bS⟩, hn⟩ : ∃ p, rnum s a4 b4 1 = p := ⟨_, rfl⟩
  have hr' : rdIds s aS bS nS = (l, a5, b5) := by have := hS; unfold rdS at this; simp only [hn] at this; exact this
  have hn2 : nS < 256 := by have := rnum1_lt s a4 b4; rw [hn] at this; exact this
  have HnS : Hid _ := hn
  have HrS : Hid _ := hr'
  clear hn hr' hS
  have HNv : Hid (nv 3 0 = 0) := (rfl : nv 3 0 = 0)
  rw [HNv.out]
  have hbw := lt_of_block h.blk
  have HT : Hid (TabP w) := hT
  have HB : Hid (b ≠ 0) := hbt
  have HM : Hid (M (fun k => k = b) w _ [rd b s _ _, blk w.heap.size (.cells (oc 0 0 ByteArray.empty ByteArray.empty Z32 (.slice none 0 0)).toArray 27), blk (w.heap.size + 1) (.cells (oc 3 0 ByteArray.empty ByteArray.empty Z32 (.slice none 0 0)).toArray 27)]) := ((M.start1 (x := rd b s _ _) h (fun k hk => by cases hk; exact hbw)).alloc (.cells (oc 0 0 ByteArray.empty ByteArray.empty Z32 (.slice none 0 0)).toArray 27) rfl).alloc (.cells (oc 3 0 ByteArray.empty ByteArray.empty Z32 (.slice none 0 0)).toArray 27) (by simp)
  clear h hT hbt
  go_enter Tryd.func40, Tryd.ntmps40
  go_wp2_with (first | (refine St.wl_alloc tyO rfl rfl (by (try simp only [World.size_alloc]); rfl) ?_; simp only [Act.put, List.setIfInBounds_toArray, List.set_cons_zero, List.set_cons_succ]) | (refine St.wl_buildV rfl rfl (cs := (oc 3 0 ByteArray.empty ByteArray.empty Z32 (.slice none 0 0)).toArray) (by kernel_rfl) ?_; simp only [Act.put, List.setIfInBounds_toArray, List.set_cons_zero, List.set_cons_succ]) | (refine St.wl_storeN tyO rfl rfl rfl rfl rfl (by (try simp only [World.size_alloc])) (show _ = Value.agg (oc 3 0 ByteArray.empty ByteArray.empty Z32 (.slice none 0 0)).toArray from rfl) (oc_sz rfl) (oc_sz rfl) (oc_one _ _ _ _ _ _ _ _) ?_; have f1 := HM.out.free 2 rfl 1; have f2 := HM.out.free 2 rfl 2; have f3 := HM.out.free 2 rfl 3; have c1 := HM.out.cell 2 rfl 1 rfl; have c2 := HM.out.cell 2 rfl 2 rfl; have c3 := HM.out.cell 2 rfl 3 rfl) | (go_at_call 39; refine (of_any _ (HT.out.keep HM.out.keep (fun e => HB.out e.symm)) 3).mono ?_; rw [show pk 3 = 20 from rfl]; rintro e w9 ⟨rfl, rfl⟩) | (go_at_call_has 70 (Value.int .i64 nV); refine (M.rraw HM.out 0 rfl HrV.out).mono ?_; rintro e w2 ⟨rfl, h1⟩; have HM : Hid _ := h1; clear h1; have f1 := HM.out.free 2 rfl 1; have f2 := HM.out.free 2 rfl 2; have f3 := HM.out.free 2 rfl 3; have c1 := HM.out.cell 2 rfl 1 rfl; have c2 := HM.out.cell 2 rfl 2 rfl; have c3 := HM.out.cell 2 rfl 3 rfl; have HM : Hid (M (fun k => k = b) w _ [rd b s _ _, blk w.heap.size (.cells (oc 0 0 ByteArray.empty ByteArray.empty Z32 (.slice none 0 0)).toArray 27), blk (w.heap.size + 1) (.cells (oc 3 0 ByteArray.empty V Z32 (.slice none 0 0)).toArray 27)]) := HM.out.setc 2 rfl 3 (.string V); have f1 := HM.out.free 2 rfl 1; have f2 := HM.out.free 2 rfl 2; have f3 := HM.out.free 2 rfl 3; have c1 := HM.out.cell 2 rfl 1 rfl; have c2 := HM.out.cell 2 rfl 2 rfl; have c3 := HM.out.cell 2 rfl 3 rfl) | (go_at_call_has 37 (Value.int .i64 1); (first | (with_reducible refine (M.rnum HM.out 0 rfl HnV.out).mono ?_) | (with_reducible refine (M.rnum HM.out 0 rfl HnS.out).mono ?_)); rintro e w5 ⟨rfl, h1⟩; have HM : Hid _ := h1; clear h1))
  go_loopw [47] (fun i wr => ∃ (k : Nat) (va : Option Addr) (vc : Nat), k ≤ nS ∧ i = .int .i64 k ∧ M (fun k => k = b) w wr [rd b s (rdIds s aS bS k).2.1 (rdIds s aS bS k).2.2, blk w.heap.size (.cells (oc 0 0 ByteArray.empty ByteArray.empty Z32 (.slice none 0 0)).toArray 27), blk (w.heap.size + 1) (.cells (oc 3 0 ByteArray.empty V Z32 (.slice va k vc)).toArray 27), ids (.slice va k vc) (rdIds s aS bS k).1]) (fun i _ => nS - (intOf i).toNat)
  case atStart => exact ⟨0, none, 0, Nat.zero_le _, rfl, HM.out.nilI⟩
  case round =>
    obtain ⟨k, va, vc, hk, rfl, hrel⟩ := hrel
    have HM : Hid _ := hrel
    clear hrel
    by_cases hlt : k < nS
    · obtain ⟨p, hp⟩ : ∃ p, rdIds s aS bS k = p := ⟨_, rfl⟩
      obtain ⟨l9, a9, b9⟩ := p
      obtain ⟨q, hq⟩ : ∃ q, rraw s a9 b9 32 = q := ⟨_, rfl⟩
      obtain ⟨x9, a8, b8⟩ := q
      have hx9 : x9.size ≤ 32 := by have := rraw_32 s a9 b9; rw [hq] at this; exact this
      have hll : l9.length = k := by have := rdIds_len s aS bS k; rw [hp] at this; exact this
      have HS2 : Hid _ := rdIds_step hp hq
      have Hq : Hid _ := hq
      have HM : Hid (M (fun k => k = b) w wr [rd b s a9 b9, blk w.heap.size (.cells (oc 0 0 ByteArray.empty ByteArray.empty Z32 (.slice none 0 0)).toArray 27), blk (w.heap.size + 1) (.cells (oc 3 0 ByteArray.empty V Z32 (.slice va k vc)).toArray 27), ids (.slice va k vc) l9]) := by have := HM.out; rw [hp] at this; exact this
      have Hpl : Hid _ := pad_len x9.data.toList (by rw [Array.length_toList]; exact hx9)
      have g36 : wr.cell? ⟨w.heap.size + 1, 36, none⟩ = some (.slice va k vc) := HM.out.cell 2 rfl 36 (oc_36 _ _ _ _ _ _ Hr.out)
      clear hp hq
      go_wp2
      refine Txt.wp_region_text1 (fun w' => w'.cell? ⟨w.heap.size + 1, 36, none⟩ = some (.slice va k vc)) [0, 2, 0, 4, 3, 4, 0, 4] (by kernel_rfl) (by kernel_rfl) g36 ?_
      simp only [List.dropLast]
      repeat (first
        | (refine Txt.tl_pure (v := ?_) (by rfl) ?_ ?_; rotate_left; (focus (intro _; go_simp; try with_reducible rfl)); simp only [Act.put, List.setIfInBounds_toArray, List.set_cons_zero, List.set_cons_succ])
        | (refine Txt.tl_skip (by rfl) trivial ?_; simp only [Act.put, List.setIfInBounds_toArray, List.set_cons_zero, List.set_cons_succ])
        | (refine Txt.tl_load (v := ?_) (by rfl) (by rfl) (by rfl) (by kernel_rfl) ?_ ?_; rotate_left; (focus (first | assumption | (go_simp; done) | (go_simp; with_reducible rfl))); simp only [Act.put, List.setIfInBounds_toArray, List.set_cons_zero, List.set_cons_succ])
        | (refine Txt.tl_alloc (by rfl) ?_; go_simp; refine ⟨by (first | exact Txt.Le.alloc_drew _ _ | exact Txt.Le.alloc _ _), ?_⟩))
      refine Txt.tl_loadS (v := .slice va k vc) (by rfl) (by rfl) (by rfl) (by kernel_rfl) (fun _ h => h) ?_
      simp only [Act.put, List.setIfInBounds_toArray, List.set_cons_zero, List.set_cons_succ]
      repeat (first
        | (refine Txt.tl_pure (v := ?_) (by rfl) ?_ ?_; rotate_left; (focus (intro _; go_simp; try with_reducible rfl)); simp only [Act.put, List.setIfInBounds_toArray, List.set_cons_zero, List.set_cons_succ])
        | (refine Txt.tl_skip (by rfl) trivial ?_; simp only [Act.put, List.setIfInBounds_toArray, List.set_cons_zero, List.set_cons_succ])
        | (refine Txt.tl_load (v := ?_) (by rfl) (by rfl) (by rfl) (by kernel_rfl) ?_ ?_; rotate_left; (focus (first | assumption | (go_simp; done) | (go_simp; with_reducible rfl))); simp only [Act.put, List.setIfInBounds_toArray, List.set_cons_zero, List.set_cons_succ])
        | (refine Txt.tl_alloc (by rfl) ?_; go_simp; refine ⟨by (first | exact Txt.Le.alloc_drew _ _ | exact Txt.Le.alloc _ _), ?_⟩))
      refine Txt.tl_call Tryd.func77 (by kernel_rfl) (by kernel_rfl) (by rfl) (by rfl) (by rfl) (oid_m HM.out.drew 0 rfl Hq.out rfl) ?_
      rintro e w4 ⟨rfl, h1⟩
      have HM : Hid _ := h1
      clear h1
      refine ⟨_, rfl, HM.out.cell 2 rfl 36 (oc_36 _ _ _ _ _ _ Hr.out), ?_⟩
      simp only [Act.put, List.setIfInBounds_toArray, List.set_cons_zero, List.set_cons_succ]
      repeat (first
        | (refine Txt.tl_pure (v := ?_) (by rfl) ?_ ?_; rotate_left; (focus (intro _; go_simp; try with_reducible rfl)); simp only [Act.put, List.setIfInBounds_toArray, List.set_cons_zero, List.set_cons_succ])
        | (refine Txt.tl_skip (by rfl) trivial ?_; simp only [Act.put, List.setIfInBounds_toArray, List.set_cons_zero, List.set_cons_succ])
        | (refine Txt.tl_load (v := ?_) (by rfl) (by rfl) (by rfl) (by kernel_rfl) ?_ ?_; rotate_left; (focus (first | assumption | (go_simp; done) | (go_simp; with_reducible rfl))); simp only [Act.put, List.setIfInBounds_toArray, List.set_cons_zero, List.set_cons_succ])
        | (refine Txt.tl_alloc (by rfl) ?_; go_simp; refine ⟨by (first | exact Txt.Le.alloc_drew _ _ | exact Txt.Le.alloc _ _), ?_⟩))
      refine Txt.tl_alloc (by rfl) ?_
      refine Ids.wp_build rfl Hpl.out rfl ?_
      have HM : Hid _ := HM.out.alloc (.cells ((pad x9.data.toList).map bv).toArray 24) rfl
      refine ⟨⟨Txt.Le.alloc _ _, HM.out.cell 2 rfl 36 (oc_36 _ _ _ _ _ _ Hr.out)⟩, ?_⟩
      simp only [Act.put, List.setIfInBounds_toArray, List.set_cons_zero, List.set_cons_succ]
      refine Txt.tl_loud (by rfl) ?_
      refine wp_app1 rfl rfl (HM.out.get 3 rfl) rfl Hpl.out (heap_alloc_new _ _) (by omega) ?_
      intro v' w6 h1 k1 h3
      obtain ⟨ya, yc, hy, _, _⟩ := h1.at
      rw [List.length_append, hll] at hy
      have HM : Hid _ := (HM.out.appI 3 rfl h1 k1 h3).take 4
      clear h1 k1 h3
      subst hy
      refine ⟨HM.out.cell 2 rfl 36 (oc_36 _ _ _ _ _ _ Hr.out), ?_⟩
      simp only [Act.put, List.setIfInBounds_toArray, List.set_cons_zero, List.set_cons_succ]
      repeat (first
        | (refine Txt.tl_pure (v := ?_) (by rfl) ?_ ?_; rotate_left; (focus (intro _; go_simp; try with_reducible rfl)); simp only [Act.put, List.setIfInBounds_toArray, List.set_cons_zero, List.set_cons_succ])
        | (refine Txt.tl_skip (by rfl) trivial ?_; simp only [Act.put, List.setIfInBounds_toArray, List.set_cons_zero, List.set_cons_succ])
        | (refine Txt.tl_load (v := ?_) (by rfl) (by rfl) (by rfl) (by kernel_rfl) ?_ ?_; rotate_left; (focus (first | assumption | (go_simp; done) | (go_simp; with_reducible rfl))); simp only [Act.put, List.setIfInBounds_toArray, List.set_cons_zero, List.set_cons_succ])
        | (refine Txt.tl_alloc (by rfl) ?_; go_simp; refine ⟨by (first | exact Txt.Le.alloc_drew _ _ | exact Txt.Le.alloc _ _), ?_⟩))
      refine Txt.tl_nil ?_
      refine Txt.tl_last (by rfl) (by rfl) ?_
      have f36 := HM.out.free 2 rfl 36
      have g36' := HM.out.cell 2 rfl 36 (oc_36 _ _ _ _ _ _ Hr.out)
      go_simp
      go_wp2
      go_roundw
      case rel => exact ⟨k + 1, ya, yc, by omega, rfl, by rw [HS2.out]; exact set_refs HM.out 2 rfl Hr.out _⟩
      case measure => simp [intOf]; omega
    · obtain rfl : k = nS := by omega
      have HM : Hid (M (fun k => k = b) w wr [rd b s a5 b5, blk w.heap.size (.cells (oc 0 0 ByteArray.empty ByteArray.empty Z32 (.slice none 0 0)).toArray 27), blk (w.heap.size + 1) (.cells (oc 3 0 ByteArray.empty V Z32 (.slice va k vc)).toArray 27), ids (.slice va k vc) l]) := by have := HM.out; rw [HrS.out] at this; exact this
      go_wp2_with (first | (refine St.wl_load tyO (by rfl) rfl rfl (HM.out.range 2 rfl) (oc_len _ _ _ _ _ _ Hr.out) ?_; simp only [Act.put, List.setIfInBounds_toArray, List.set_cons_zero, List.set_cons_succ]) | (refine St.wl_store tyO rfl rfl rfl rfl rfl (oc_sz Hr.out) (oc_one _ _ _ _ _ _ _ _) (HM.out.get 1 rfl) (oc_sz rfl) ?_))
      refine bodyPost_ret (St.res1 tyO rfl _ _ w.heap.size _ (oc_sz Hr.out) rfl ((HM.out.setr 1 rfl (oc 3 0 ByteArray.empty V Z32 (.slice va k vc)).toArray).get 1 rfl)) rfl ?_
      exact ⟨_, rfl, (HM.out.setr 1 rfl (oc 3 0 ByteArray.empty V Z32 (.slice va k vc)).toArray).get 3 rfl, (HM.out.setr 1 rfl (oc 3 0 ByteArray.empty V Z32 (.slice va k vc)).toArray).get 0 rfl, (HM.out.setr 1 rfl (oc 3 0 ByteArray.empty V Z32 (.slice va k vc)).toArray).keep, fun y hy => by
        have hb' := lt_of_block (M.get HM.out 0 rfl).blk
        rcases (HM.out.rng 3 _ rfl y hy).1 with e | e
        · exact e
        · exact absurd rfl (fun e2 : b = b => HM.out.dis 3 0 _ _ rfl rfl (by decide) y hy e)⟩
set_option maxRecDepth 100000 in
set_option maxHeartbeats 4000000 in
theorem take_4 (w : World) (hT : TabP w) (b : Nat) (s : ByteArray) (a a1 a2 a3 a4 a5 : Nat) (bad b1 b2 b3 b4 b5 : Int) (r : List UInt8) (Y V : ByteArray) (m : Nat) (l : List (List UInt8)) (h : IsR w b s a bad) (hbt : b ≠ 0) (hR : rdR s a bad (iR 4) = (r, a1, b1)) (hY : rdT s a1 b1 (iK 4) = (Y, a2, b2)) (hV : rdT s a2 b2 (iV 4) = (V, a3, b3)) (hN : rdN s a3 b3 (iN 4) = (m, a4, b4)) (hS : rdS s a4 b4 (iS 4) = (l, a5, b5)) :
    Calls Tryd.prog 40 #[.pointer (some ⟨b, 0, none⟩), .int .i64 4] w fun e w' => ∃ v, e = .returned (.agg (oc 4 (nv 4 m) Y V r v).toArray) ∧ Own w' v l ∧ IsR w' b s a5 b5 ∧ Keep (fun k => k = b) w w' ∧ (∀ k, v.ownBlock = some k → w.heap.size ≤ k) := by
  have h' : (Z32, a, bad) = (r, a1, b1) := hR
  simp only [Prod.mk.injEq] at h'
  obtain ⟨e1, e2, e3⟩ := h'
  subst e1
  replace e2 := e2.symm
  replace e3 := e3.symm
  subst e2 e3
  clear hR
  have Hr : Hid (Z32.length = 32) := (rfl : Z32.length = 32)
  obtain ⟨⟨nY, aY, bY⟩, hn⟩ : ∃ p, rnum s a1 b1 1 = p := ⟨_, rfl⟩
  have hr' : rraw s aY bY nY = (Y, a2, b2) := by have := hY; unfold rdT at this; simp only [hn] at this; exact this
  have HnY : Hid _ := hn
  have HrY : Hid _ := hr'
  clear hn hr' hY
  obtain ⟨⟨nV, aV, bV⟩, hn⟩ : ∃ p, rnum s a2 b2 1 = p := ⟨_, rfl⟩
  have hr' : rraw s aV bV nV = (V, a3, b3) := by have := hV; unfold rdT at this; simp only [hn] at this; exact this
  have HnV : Hid _ := hn
  have HrV : Hid _ := hr'
  clear hn hr' hV
  have hm4 : m < 4294967296 := by have := rnum4_lt s a3 b3; rw [show rnum s a3 b3 4 = (m, a4, b4) from hN] at this; exact this
  have HnN : Hid (rnum s a3 b3 4 = (m, a4, b4)) := hN
  clear hN
  have h' : (([] : List (List UInt8)), a4, b4) = (l, a5, b5) := hS
  simp only [Prod.mk.injEq] at h'
  obtain ⟨e1, e2, e3⟩ := h'
  subst e1
  replace e2 := e2.symm
  replace e3 := e3.symm
  subst e2 e3
  clear hS
  obtain ⟨m1, hm1⟩ : ∃ m1, (m : Int) - 0 = m1 := ⟨_, rfl⟩
  have hw : IntKind.i64.wrap ((m : Int) - 0) = m1 := by rw [hm1]; exact IntWalk.i64_in _ (by omega)
  have hw2 : IntKind.i64.wrap (m : Int) = m1 := by rw [show (m : Int) = m1 by omega]; exact IntWalk.i64_in _ (by omega)
  have HNv : Hid (nv 4 m = m1) := hm1
  clear hm1
  rw [HNv.out]
  have hbw := lt_of_block h.blk
  have HT : Hid (TabP w) := hT
  have HB : Hid (b ≠ 0) := hbt
  have HM : Hid (M (fun k => k = b) w _ [rd b s _ _, blk w.heap.size (.cells (oc 0 0 ByteArray.empty ByteArray.empty Z32 (.slice none 0 0)).toArray 27), blk (w.heap.size + 1) (.cells (oc 4 0 ByteArray.empty ByteArray.empty Z32 (.slice none 0 0)).toArray 27)]) := ((M.start1 (x := rd b s _ _) h (fun k hk => by cases hk; exact hbw)).alloc (.cells (oc 0 0 ByteArray.empty ByteArray.empty Z32 (.slice none 0 0)).toArray 27) rfl).alloc (.cells (oc 4 0 ByteArray.empty ByteArray.empty Z32 (.slice none 0 0)).toArray 27) (by simp)
  clear h hT hbt
  go_enter Tryd.func40, Tryd.ntmps40
  go_wp2_with (first | (refine St.wl_alloc tyO rfl rfl (by (try simp only [World.size_alloc]); rfl) ?_; simp only [Act.put, List.setIfInBounds_toArray, List.set_cons_zero, List.set_cons_succ]) | (refine St.wl_buildV rfl rfl (cs := (oc 4 0 ByteArray.empty ByteArray.empty Z32 (.slice none 0 0)).toArray) (by kernel_rfl) ?_; simp only [Act.put, List.setIfInBounds_toArray, List.set_cons_zero, List.set_cons_succ]) | (refine St.wl_storeN tyO rfl rfl rfl rfl rfl (by (try simp only [World.size_alloc])) (show _ = Value.agg (oc 4 0 ByteArray.empty ByteArray.empty Z32 (.slice none 0 0)).toArray from rfl) (oc_sz rfl) (oc_sz rfl) (oc_one _ _ _ _ _ _ _ _) ?_; have f1 := HM.out.free 2 rfl 1; have f2 := HM.out.free 2 rfl 2; have f3 := HM.out.free 2 rfl 3; have c1 := HM.out.cell 2 rfl 1 rfl; have c2 := HM.out.cell 2 rfl 2 rfl; have c3 := HM.out.cell 2 rfl 3 rfl) | (go_at_call 39; refine (of_any _ (HT.out.keep HM.out.keep (fun e => HB.out e.symm)) 4).mono ?_; rw [show pk 4 = 7 from rfl]; rintro e w9 ⟨rfl, rfl⟩) | (go_at_call_has 70 (Value.int .i64 nY); refine (M.rraw HM.out 0 rfl HrY.out).mono ?_; rintro e w2 ⟨rfl, h1⟩; have HM : Hid _ := h1; clear h1; have f1 := HM.out.free 2 rfl 1; have f2 := HM.out.free 2 rfl 2; have f3 := HM.out.free 2 rfl 3; have c1 := HM.out.cell 2 rfl 1 rfl; have c2 := HM.out.cell 2 rfl 2 rfl; have c3 := HM.out.cell 2 rfl 3 rfl; have HM : Hid (M (fun k => k = b) w _ [rd b s _ _, blk w.heap.size (.cells (oc 0 0 ByteArray.empty ByteArray.empty Z32 (.slice none 0 0)).toArray 27), blk (w.heap.size + 1) (.cells (oc 4 0 Y ByteArray.empty Z32 (.slice none 0 0)).toArray 27)]) := HM.out.setc 2 rfl 2 (.string Y); have f1 := HM.out.free 2 rfl 1; have f2 := HM.out.free 2 rfl 2; have f3 := HM.out.free 2 rfl 3; have c1 := HM.out.cell 2 rfl 1 rfl; have c2 := HM.out.cell 2 rfl 2 rfl; have c3 := HM.out.cell 2 rfl 3 rfl) | (go_at_call_has 70 (Value.int .i64 nV); refine (M.rraw HM.out 0 rfl HrV.out).mono ?_; rintro e w2 ⟨rfl, h1⟩; have HM : Hid _ := h1; clear h1; have f1 := HM.out.free 2 rfl 1; have f2 := HM.out.free 2 rfl 2; have f3 := HM.out.free 2 rfl 3; have c1 := HM.out.cell 2 rfl 1 rfl; have c2 := HM.out.cell 2 rfl 2 rfl; have c3 := HM.out.cell 2 rfl 3 rfl; have HM : Hid (M (fun k => k = b) w _ [rd b s _ _, blk w.heap.size (.cells (oc 0 0 ByteArray.empty ByteArray.empty Z32 (.slice none 0 0)).toArray 27), blk (w.heap.size + 1) (.cells (oc 4 0 Y V Z32 (.slice none 0 0)).toArray 27)]) := HM.out.setc 2 rfl 3 (.string V); have f1 := HM.out.free 2 rfl 1; have f2 := HM.out.free 2 rfl 2; have f3 := HM.out.free 2 rfl 3; have c1 := HM.out.cell 2 rfl 1 rfl; have c2 := HM.out.cell 2 rfl 2 rfl; have c3 := HM.out.cell 2 rfl 3 rfl) | (go_at_call_has 37 (Value.int .i64 4); refine (M.rnum HM.out 0 rfl HnN.out).mono ?_; rintro e w3 ⟨rfl, h1⟩; have HM : Hid _ := h1; clear h1) | (go_at_call 78; refine (shift_n _ 4 rfl).mono ?_; rintro e w4 ⟨rfl, rfl⟩; have f1 := HM.out.free 2 rfl 1; have f2 := HM.out.free 2 rfl 2; have f3 := HM.out.free 2 rfl 3; have c1 := HM.out.cell 2 rfl 1 rfl; have c2 := HM.out.cell 2 rfl 2 rfl; have c3 := HM.out.cell 2 rfl 3 rfl; have HM : Hid (M (fun k => k = b) w _ [rd b s _ _, blk w.heap.size (.cells (oc 0 0 ByteArray.empty ByteArray.empty Z32 (.slice none 0 0)).toArray 27), blk (w.heap.size + 1) (.cells (oc 4 m1 Y V Z32 (.slice none 0 0)).toArray 27)]) := HM.out.setc 2 rfl 1 (.int .i64 m1); have f1 := HM.out.free 2 rfl 1; have f2 := HM.out.free 2 rfl 2; have f3 := HM.out.free 2 rfl 3; have c1 := HM.out.cell 2 rfl 1 rfl; have c2 := HM.out.cell 2 rfl 2 rfl; have c3 := HM.out.cell 2 rfl 3 rfl) | (go_at_call_has 37 (Value.int .i64 1); (first | (with_reducible refine (M.rnum HM.out 0 rfl HnY.out).mono ?_) | (with_reducible refine (M.rnum HM.out 0 rfl HnV.out).mono ?_)); rintro e w5 ⟨rfl, h1⟩; have HM : Hid _ := h1; clear h1) | (refine St.wl_load tyO (by rfl) rfl rfl (HM.out.range 2 rfl) (oc_len _ _ _ _ _ _ Hr.out) ?_; simp only [Act.put, List.setIfInBounds_toArray, List.set_cons_zero, List.set_cons_succ]) | (refine St.wl_store tyO rfl rfl rfl rfl rfl (oc_sz Hr.out) (oc_one _ _ _ _ _ _ _ _) (HM.out.get 1 rfl) (oc_sz rfl) ?_))
  refine bodyPost_ret (St.res1 tyO rfl _ _ w.heap.size _ (oc_sz Hr.out) rfl ((HM.out.setr 1 rfl (oc 4 m1 Y V Z32 (.slice none 0 0)).toArray).get 1 rfl)) rfl ?_
  exact ⟨_, rfl, Own.nil _, (HM.out.setr 1 rfl (oc 4 m1 Y V Z32 (.slice none 0 0)).toArray).get 0 rfl, (HM.out.setr 1 rfl (oc 4 m1 Y V Z32 (.slice none 0 0)).toArray).keep, fun k hk => by simp [Value.ownBlock] at hk⟩
set_option maxRecDepth 100000 in
set_option maxHeartbeats 4000000 in
theorem take_5 (w : World) (hT : TabP w) (b : Nat) (s : ByteArray) (a a1 a2 a3 a4 a5 : Nat) (bad b1 b2 b3 b4 b5 : Int) (r : List UInt8) (Y V : ByteArray) (m : Nat) (l : List (List UInt8)) (h : IsR w b s a bad) (hbt : b ≠ 0) (hR : rdR s a bad (iR 5) = (r, a1, b1)) (hY : rdT s a1 b1 (iK 5) = (Y, a2, b2)) (hV : rdT s a2 b2 (iV 5) = (V, a3, b3)) (hN : rdN s a3 b3 (iN 5) = (m, a4, b4)) (hS : rdS s a4 b4 (iS 5) = (l, a5, b5)) :
    Calls Tryd.prog 40 #[.pointer (some ⟨b, 0, none⟩), .int .i64 5] w fun e w' => ∃ v, e = .returned (.agg (oc 5 (nv 5 m) Y V r v).toArray) ∧ Own w' v l ∧ IsR w' b s a5 b5 ∧ Keep (fun k => k = b) w w' ∧ (∀ k, v.ownBlock = some k → w.heap.size ≤ k) := by
  have h' : (Z32, a, bad) = (r, a1, b1) := hR
  simp only [Prod.mk.injEq] at h'
  obtain ⟨e1, e2, e3⟩ := h'
  subst e1
  replace e2 := e2.symm
  replace e3 := e3.symm
  subst e2 e3
  clear hR
  have Hr : Hid (Z32.length = 32) := (rfl : Z32.length = 32)
  obtain ⟨⟨nY, aY, bY⟩, hn⟩ : ∃ p, rnum s a1 b1 1 = p := ⟨_, rfl⟩
  have hr' : rraw s aY bY nY = (Y, a2, b2) := by have := hY; unfold rdT at this; simp only [hn] at this; exact this
  have HnY : Hid _ := hn
  have HrY : Hid _ := hr'
  clear hn hr' hY
  obtain ⟨⟨nV, aV, bV⟩, hn⟩ : ∃ p, rnum s a2 b2 1 = p := ⟨_, rfl⟩
  have hr' : rraw s aV bV nV = (V, a3, b3) := by have := hV; unfold rdT at this; simp only [hn] at this; exact this
  have HnV : Hid _ := hn
  have HrV : Hid _ := hr'
  clear hn hr' hV
  have h' : ((0 : Nat), a3, b3) = (m, a4, b4) := hN
  simp only [Prod.mk.injEq] at h'
  obtain ⟨e1, e2, e3⟩ := h'
  subst e1
  replace e2 := e2.symm
  replace e3 := e3.symm
  subst e2 e3
  clear hN
  obtain ⟨⟨nS, aS, bS⟩, hn⟩ : ∃ p, rnum s a4 b4 1 = p := ⟨_, rfl⟩
  have hr' : rdIds s aS bS nS = (l, a5, b5) := by have := hS; unfold rdS at this; simp only [hn] at this; exact this
  have hn2 : nS < 256 := by have := rnum1_lt s a4 b4; rw [hn] at this; exact this
  have HnS : Hid _ := hn
  have HrS : Hid _ := hr'
  clear hn hr' hS
  have HNv : Hid (nv 5 0 = 0) := (rfl : nv 5 0 = 0)
  rw [HNv.out]
  have hbw := lt_of_block h.blk
  have HT : Hid (TabP w) := hT
  have HB : Hid (b ≠ 0) := hbt
  have HM : Hid (M (fun k => k = b) w _ [rd b s _ _, blk w.heap.size (.cells (oc 0 0 ByteArray.empty ByteArray.empty Z32 (.slice none 0 0)).toArray 27), blk (w.heap.size + 1) (.cells (oc 5 0 ByteArray.empty ByteArray.empty Z32 (.slice none 0 0)).toArray 27)]) := ((M.start1 (x := rd b s _ _) h (fun k hk => by cases hk; exact hbw)).alloc (.cells (oc 0 0 ByteArray.empty ByteArray.empty Z32 (.slice none 0 0)).toArray 27) rfl).alloc (.cells (oc 5 0 ByteArray.empty ByteArray.empty Z32 (.slice none 0 0)).toArray 27) (by simp)
  clear h hT hbt
  go_enter Tryd.func40, Tryd.ntmps40
  go_wp2_with (first | (refine St.wl_alloc tyO rfl rfl (by (try simp only [World.size_alloc]); rfl) ?_; simp only [Act.put, List.setIfInBounds_toArray, List.set_cons_zero, List.set_cons_succ]) | (refine St.wl_buildV rfl rfl (cs := (oc 5 0 ByteArray.empty ByteArray.empty Z32 (.slice none 0 0)).toArray) (by kernel_rfl) ?_; simp only [Act.put, List.setIfInBounds_toArray, List.set_cons_zero, List.set_cons_succ]) | (refine St.wl_storeN tyO rfl rfl rfl rfl rfl (by (try simp only [World.size_alloc])) (show _ = Value.agg (oc 5 0 ByteArray.empty ByteArray.empty Z32 (.slice none 0 0)).toArray from rfl) (oc_sz rfl) (oc_sz rfl) (oc_one _ _ _ _ _ _ _ _) ?_; have f1 := HM.out.free 2 rfl 1; have f2 := HM.out.free 2 rfl 2; have f3 := HM.out.free 2 rfl 3; have c1 := HM.out.cell 2 rfl 1 rfl; have c2 := HM.out.cell 2 rfl 2 rfl; have c3 := HM.out.cell 2 rfl 3 rfl) | (go_at_call 39; refine (of_any _ (HT.out.keep HM.out.keep (fun e => HB.out e.symm)) 5).mono ?_; rw [show pk 5 = 22 from rfl]; rintro e w9 ⟨rfl, rfl⟩) | (go_at_call_has 70 (Value.int .i64 nY); refine (M.rraw HM.out 0 rfl HrY.out).mono ?_; rintro e w2 ⟨rfl, h1⟩; have HM : Hid _ := h1; clear h1; have f1 := HM.out.free 2 rfl 1; have f2 := HM.out.free 2 rfl 2; have f3 := HM.out.free 2 rfl 3; have c1 := HM.out.cell 2 rfl 1 rfl; have c2 := HM.out.cell 2 rfl 2 rfl; have c3 := HM.out.cell 2 rfl 3 rfl; have HM : Hid (M (fun k => k = b) w _ [rd b s _ _, blk w.heap.size (.cells (oc 0 0 ByteArray.empty ByteArray.empty Z32 (.slice none 0 0)).toArray 27), blk (w.heap.size + 1) (.cells (oc 5 0 Y ByteArray.empty Z32 (.slice none 0 0)).toArray 27)]) := HM.out.setc 2 rfl 2 (.string Y); have f1 := HM.out.free 2 rfl 1; have f2 := HM.out.free 2 rfl 2; have f3 := HM.out.free 2 rfl 3; have c1 := HM.out.cell 2 rfl 1 rfl; have c2 := HM.out.cell 2 rfl 2 rfl; have c3 := HM.out.cell 2 rfl 3 rfl) | (go_at_call_has 70 (Value.int .i64 nV); refine (M.rraw HM.out 0 rfl HrV.out).mono ?_; rintro e w2 ⟨rfl, h1⟩; have HM : Hid _ := h1; clear h1; have f1 := HM.out.free 2 rfl 1; have f2 := HM.out.free 2 rfl 2; have f3 := HM.out.free 2 rfl 3; have c1 := HM.out.cell 2 rfl 1 rfl; have c2 := HM.out.cell 2 rfl 2 rfl; have c3 := HM.out.cell 2 rfl 3 rfl; have HM : Hid (M (fun k => k = b) w _ [rd b s _ _, blk w.heap.size (.cells (oc 0 0 ByteArray.empty ByteArray.empty Z32 (.slice none 0 0)).toArray 27), blk (w.heap.size + 1) (.cells (oc 5 0 Y V Z32 (.slice none 0 0)).toArray 27)]) := HM.out.setc 2 rfl 3 (.string V); have f1 := HM.out.free 2 rfl 1; have f2 := HM.out.free 2 rfl 2; have f3 := HM.out.free 2 rfl 3; have c1 := HM.out.cell 2 rfl 1 rfl; have c2 := HM.out.cell 2 rfl 2 rfl; have c3 := HM.out.cell 2 rfl 3 rfl) | (go_at_call_has 37 (Value.int .i64 1); (first | (with_reducible refine (M.rnum HM.out 0 rfl HnY.out).mono ?_) | (with_reducible refine (M.rnum HM.out 0 rfl HnV.out).mono ?_) | (with_reducible refine (M.rnum HM.out 0 rfl HnS.out).mono ?_)); rintro e w5 ⟨rfl, h1⟩; have HM : Hid _ := h1; clear h1))
  go_loopw [47] (fun i wr => ∃ (k : Nat) (va : Option Addr) (vc : Nat), k ≤ nS ∧ i = .int .i64 k ∧ M (fun k => k = b) w wr [rd b s (rdIds s aS bS k).2.1 (rdIds s aS bS k).2.2, blk w.heap.size (.cells (oc 0 0 ByteArray.empty ByteArray.empty Z32 (.slice none 0 0)).toArray 27), blk (w.heap.size + 1) (.cells (oc 5 0 Y V Z32 (.slice va k vc)).toArray 27), ids (.slice va k vc) (rdIds s aS bS k).1]) (fun i _ => nS - (intOf i).toNat)
  case atStart => exact ⟨0, none, 0, Nat.zero_le _, rfl, HM.out.nilI⟩
  case round =>
    obtain ⟨k, va, vc, hk, rfl, hrel⟩ := hrel
    have HM : Hid _ := hrel
    clear hrel
    by_cases hlt : k < nS
    · obtain ⟨p, hp⟩ : ∃ p, rdIds s aS bS k = p := ⟨_, rfl⟩
      obtain ⟨l9, a9, b9⟩ := p
      obtain ⟨q, hq⟩ : ∃ q, rraw s a9 b9 32 = q := ⟨_, rfl⟩
      obtain ⟨x9, a8, b8⟩ := q
      have hx9 : x9.size ≤ 32 := by have := rraw_32 s a9 b9; rw [hq] at this; exact this
      have hll : l9.length = k := by have := rdIds_len s aS bS k; rw [hp] at this; exact this
      have HS2 : Hid _ := rdIds_step hp hq
      have Hq : Hid _ := hq
      have HM : Hid (M (fun k => k = b) w wr [rd b s a9 b9, blk w.heap.size (.cells (oc 0 0 ByteArray.empty ByteArray.empty Z32 (.slice none 0 0)).toArray 27), blk (w.heap.size + 1) (.cells (oc 5 0 Y V Z32 (.slice va k vc)).toArray 27), ids (.slice va k vc) l9]) := by have := HM.out; rw [hp] at this; exact this
      have Hpl : Hid _ := pad_len x9.data.toList (by rw [Array.length_toList]; exact hx9)
      have g36 : wr.cell? ⟨w.heap.size + 1, 36, none⟩ = some (.slice va k vc) := HM.out.cell 2 rfl 36 (oc_36 _ _ _ _ _ _ Hr.out)
      clear hp hq
      go_wp2
      refine Txt.wp_region_text1 (fun w' => w'.cell? ⟨w.heap.size + 1, 36, none⟩ = some (.slice va k vc)) [0, 2, 0, 4, 3, 4, 0, 4] (by kernel_rfl) (by kernel_rfl) g36 ?_
      simp only [List.dropLast]
      repeat (first
        | (refine Txt.tl_pure (v := ?_) (by rfl) ?_ ?_; rotate_left; (focus (intro _; go_simp; try with_reducible rfl)); simp only [Act.put, List.setIfInBounds_toArray, List.set_cons_zero, List.set_cons_succ])
        | (refine Txt.tl_skip (by rfl) trivial ?_; simp only [Act.put, List.setIfInBounds_toArray, List.set_cons_zero, List.set_cons_succ])
        | (refine Txt.tl_load (v := ?_) (by rfl) (by rfl) (by rfl) (by kernel_rfl) ?_ ?_; rotate_left; (focus (first | assumption | (go_simp; done) | (go_simp; with_reducible rfl))); simp only [Act.put, List.setIfInBounds_toArray, List.set_cons_zero, List.set_cons_succ])
        | (refine Txt.tl_alloc (by rfl) ?_; go_simp; refine ⟨by (first | exact Txt.Le.alloc_drew _ _ | exact Txt.Le.alloc _ _), ?_⟩))
      refine Txt.tl_loadS (v := .slice va k vc) (by rfl) (by rfl) (by rfl) (by kernel_rfl) (fun _ h => h) ?_
      simp only [Act.put, List.setIfInBounds_toArray, List.set_cons_zero, List.set_cons_succ]
      repeat (first
        | (refine Txt.tl_pure (v := ?_) (by rfl) ?_ ?_; rotate_left; (focus (intro _; go_simp; try with_reducible rfl)); simp only [Act.put, List.setIfInBounds_toArray, List.set_cons_zero, List.set_cons_succ])
        | (refine Txt.tl_skip (by rfl) trivial ?_; simp only [Act.put, List.setIfInBounds_toArray, List.set_cons_zero, List.set_cons_succ])
        | (refine Txt.tl_load (v := ?_) (by rfl) (by rfl) (by rfl) (by kernel_rfl) ?_ ?_; rotate_left; (focus (first | assumption | (go_simp; done) | (go_simp; with_reducible rfl))); simp only [Act.put, List.setIfInBounds_toArray, List.set_cons_zero, List.set_cons_succ])
        | (refine Txt.tl_alloc (by rfl) ?_; go_simp; refine ⟨by (first | exact Txt.Le.alloc_drew _ _ | exact Txt.Le.alloc _ _), ?_⟩))
      refine Txt.tl_call Tryd.func77 (by kernel_rfl) (by kernel_rfl) (by rfl) (by rfl) (by rfl) (oid_m HM.out.drew 0 rfl Hq.out rfl) ?_
      rintro e w4 ⟨rfl, h1⟩
      have HM : Hid _ := h1
      clear h1
      refine ⟨_, rfl, HM.out.cell 2 rfl 36 (oc_36 _ _ _ _ _ _ Hr.out), ?_⟩
      simp only [Act.put, List.setIfInBounds_toArray, List.set_cons_zero, List.set_cons_succ]
      repeat (first
        | (refine Txt.tl_pure (v := ?_) (by rfl) ?_ ?_; rotate_left; (focus (intro _; go_simp; try with_reducible rfl)); simp only [Act.put, List.setIfInBounds_toArray, List.set_cons_zero, List.set_cons_succ])
        | (refine Txt.tl_skip (by rfl) trivial ?_; simp only [Act.put, List.setIfInBounds_toArray, List.set_cons_zero, List.set_cons_succ])
        | (refine Txt.tl_load (v := ?_) (by rfl) (by rfl) (by rfl) (by kernel_rfl) ?_ ?_; rotate_left; (focus (first | assumption | (go_simp; done) | (go_simp; with_reducible rfl))); simp only [Act.put, List.setIfInBounds_toArray, List.set_cons_zero, List.set_cons_succ])
        | (refine Txt.tl_alloc (by rfl) ?_; go_simp; refine ⟨by (first | exact Txt.Le.alloc_drew _ _ | exact Txt.Le.alloc _ _), ?_⟩))
      refine Txt.tl_alloc (by rfl) ?_
      refine Ids.wp_build rfl Hpl.out rfl ?_
      have HM : Hid _ := HM.out.alloc (.cells ((pad x9.data.toList).map bv).toArray 24) rfl
      refine ⟨⟨Txt.Le.alloc _ _, HM.out.cell 2 rfl 36 (oc_36 _ _ _ _ _ _ Hr.out)⟩, ?_⟩
      simp only [Act.put, List.setIfInBounds_toArray, List.set_cons_zero, List.set_cons_succ]
      refine Txt.tl_loud (by rfl) ?_
      refine wp_app1 rfl rfl (HM.out.get 3 rfl) rfl Hpl.out (heap_alloc_new _ _) (by omega) ?_
      intro v' w6 h1 k1 h3
      obtain ⟨ya, yc, hy, _, _⟩ := h1.at
      rw [List.length_append, hll] at hy
      have HM : Hid _ := (HM.out.appI 3 rfl h1 k1 h3).take 4
      clear h1 k1 h3
      subst hy
      refine ⟨HM.out.cell 2 rfl 36 (oc_36 _ _ _ _ _ _ Hr.out), ?_⟩
      simp only [Act.put, List.setIfInBounds_toArray, List.set_cons_zero, List.set_cons_succ]
      repeat (first
        | (refine Txt.tl_pure (v := ?_) (by rfl) ?_ ?_; rotate_left; (focus (intro _; go_simp; try with_reducible rfl)); simp only [Act.put, List.setIfInBounds_toArray, List.set_cons_zero, List.set_cons_succ])
        | (refine Txt.tl_skip (by rfl) trivial ?_; simp only [Act.put, List.setIfInBounds_toArray, List.set_cons_zero, List.set_cons_succ])
        | (refine Txt.tl_load (v := ?_) (by rfl) (by rfl) (by rfl) (by kernel_rfl) ?_ ?_; rotate_left; (focus (first | assumption | (go_simp; done) | (go_simp; with_reducible rfl))); simp only [Act.put, List.setIfInBounds_toArray, List.set_cons_zero, List.set_cons_succ])
        | (refine Txt.tl_alloc (by rfl) ?_; go_simp; refine ⟨by (first | exact Txt.Le.alloc_drew _ _ | exact Txt.Le.alloc _ _), ?_⟩))
      refine Txt.tl_nil ?_
      refine Txt.tl_last (by rfl) (by rfl) ?_
      have f36 := HM.out.free 2 rfl 36
      have g36' := HM.out.cell 2 rfl 36 (oc_36 _ _ _ _ _ _ Hr.out)
      go_simp
      go_wp2
      go_roundw
      case rel => exact ⟨k + 1, ya, yc, by omega, rfl, by rw [HS2.out]; exact set_refs HM.out 2 rfl Hr.out _⟩
      case measure => simp [intOf]; omega
    · obtain rfl : k = nS := by omega
      have HM : Hid (M (fun k => k = b) w wr [rd b s a5 b5, blk w.heap.size (.cells (oc 0 0 ByteArray.empty ByteArray.empty Z32 (.slice none 0 0)).toArray 27), blk (w.heap.size + 1) (.cells (oc 5 0 Y V Z32 (.slice va k vc)).toArray 27), ids (.slice va k vc) l]) := by have := HM.out; rw [HrS.out] at this; exact this
      go_wp2_with (first | (refine St.wl_load tyO (by rfl) rfl rfl (HM.out.range 2 rfl) (oc_len _ _ _ _ _ _ Hr.out) ?_; simp only [Act.put, List.setIfInBounds_toArray, List.set_cons_zero, List.set_cons_succ]) | (refine St.wl_store tyO rfl rfl rfl rfl rfl (oc_sz Hr.out) (oc_one _ _ _ _ _ _ _ _) (HM.out.get 1 rfl) (oc_sz rfl) ?_))
      refine bodyPost_ret (St.res1 tyO rfl _ _ w.heap.size _ (oc_sz Hr.out) rfl ((HM.out.setr 1 rfl (oc 5 0 Y V Z32 (.slice va k vc)).toArray).get 1 rfl)) rfl ?_
      exact ⟨_, rfl, (HM.out.setr 1 rfl (oc 5 0 Y V Z32 (.slice va k vc)).toArray).get 3 rfl, (HM.out.setr 1 rfl (oc 5 0 Y V Z32 (.slice va k vc)).toArray).get 0 rfl, (HM.out.setr 1 rfl (oc 5 0 Y V Z32 (.slice va k vc)).toArray).keep, fun y hy => by
        have hb' := lt_of_block (M.get HM.out 0 rfl).blk
        rcases (HM.out.rng 3 _ rfl y hy).1 with e | e
        · exact e
        · exact absurd rfl (fun e2 : b = b => HM.out.dis 3 0 _ _ rfl rfl (by decide) y hy e)⟩
set_option maxRecDepth 100000 in
set_option maxHeartbeats 4000000 in
theorem take_6 (w : World) (hT : TabP w) (b : Nat) (s : ByteArray) (a a1 a2 a3 a4 a5 : Nat) (bad b1 b2 b3 b4 b5 : Int) (r : List UInt8) (Y V : ByteArray) (m : Nat) (l : List (List UInt8)) (h : IsR w b s a bad) (hbt : b ≠ 0) (hR : rdR s a bad (iR 6) = (r, a1, b1)) (hY : rdT s a1 b1 (iK 6) = (Y, a2, b2)) (hV : rdT s a2 b2 (iV 6) = (V, a3, b3)) (hN : rdN s a3 b3 (iN 6) = (m, a4, b4)) (hS : rdS s a4 b4 (iS 6) = (l, a5, b5)) :
    Calls Tryd.prog 40 #[.pointer (some ⟨b, 0, none⟩), .int .i64 6] w fun e w' => ∃ v, e = .returned (.agg (oc 6 (nv 6 m) Y V r v).toArray) ∧ Own w' v l ∧ IsR w' b s a5 b5 ∧ Keep (fun k => k = b) w w' ∧ (∀ k, v.ownBlock = some k → w.heap.size ≤ k) := by
  obtain ⟨⟨x, a9, b9⟩, hx⟩ : ∃ p, rraw s a bad 32 = p := ⟨_, rfl⟩
  have h' : (pad x.data.toList, a9, b9) = (r, a1, b1) := by have := hR; unfold rdR at this; simp only [hx] at this; exact this
  simp only [Prod.mk.injEq] at h'
  obtain ⟨e1, e2, e3⟩ := h'
  replace e2 := e2.symm
  replace e3 := e3.symm
  subst e2 e3
  have hx32 : x.size ≤ 32 := by have := rraw_32 s a bad; rw [hx] at this; exact this
  have Hx : Hid _ := hx
  have Hpx : Hid (pad x.data.toList = r) := e1
  have Hr : Hid (r.length = 32) := by show _ = _; rw [← e1]; exact pad_len x.data.toList (by rw [Array.length_toList]; exact hx32)
  clear hx hR e1 hx32
  have h' : ((ByteArray.empty : ByteArray), a1, b1) = (Y, a2, b2) := hY
  simp only [Prod.mk.injEq] at h'
  obtain ⟨e1, e2, e3⟩ := h'
  subst e1
  replace e2 := e2.symm
  replace e3 := e3.symm
  subst e2 e3
  clear hY
  obtain ⟨⟨nV, aV, bV⟩, hn⟩ : ∃ p, rnum s a2 b2 1 = p := ⟨_, rfl⟩
  have hr' : rraw s aV bV nV = (V, a3, b3) := by have := hV; unfold rdT at this; simp only [hn] at this; exact this
  have HnV : Hid _ := hn
  have HrV : Hid _ := hr'
  clear hn hr' hV
  have h' : ((0 : Nat), a3, b3) = (m, a4, b4) := hN
  simp only [Prod.mk.injEq] at h'
  obtain ⟨e1, e2, e3⟩ := h'
  subst e1
  replace e2 := e2.symm
  replace e3 := e3.symm
  subst e2 e3
  clear hN
  have h' : (([] : List (List UInt8)), a4, b4) = (l, a5, b5) := hS
  simp only [Prod.mk.injEq] at h'
  obtain ⟨e1, e2, e3⟩ := h'
  subst e1
  replace e2 := e2.symm
  replace e3 := e3.symm
  subst e2 e3
  clear hS
  have HNv : Hid (nv 6 0 = 0) := (rfl : nv 6 0 = 0)
  rw [HNv.out]
  have hbw := lt_of_block h.blk
  have HT : Hid (TabP w) := hT
  have HB : Hid (b ≠ 0) := hbt
  have HM : Hid (M (fun k => k = b) w _ [rd b s _ _, blk w.heap.size (.cells (oc 0 0 ByteArray.empty ByteArray.empty Z32 (.slice none 0 0)).toArray 27), blk (w.heap.size + 1) (.cells (oc 6 0 ByteArray.empty ByteArray.empty Z32 (.slice none 0 0)).toArray 27)]) := ((M.start1 (x := rd b s _ _) h (fun k hk => by cases hk; exact hbw)).alloc (.cells (oc 0 0 ByteArray.empty ByteArray.empty Z32 (.slice none 0 0)).toArray 27) rfl).alloc (.cells (oc 6 0 ByteArray.empty ByteArray.empty Z32 (.slice none 0 0)).toArray 27) (by simp)
  clear h hT hbt
  go_enter Tryd.func40, Tryd.ntmps40
  go_wp2_with (first | (refine St.wl_alloc tyO rfl rfl (by (try simp only [World.size_alloc]); rfl) ?_; simp only [Act.put, List.setIfInBounds_toArray, List.set_cons_zero, List.set_cons_succ]) | (refine St.wl_buildV rfl rfl (cs := (oc 6 0 ByteArray.empty ByteArray.empty Z32 (.slice none 0 0)).toArray) (by kernel_rfl) ?_; simp only [Act.put, List.setIfInBounds_toArray, List.set_cons_zero, List.set_cons_succ]) | (refine St.wl_storeN tyO rfl rfl rfl rfl rfl (by (try simp only [World.size_alloc])) (show _ = Value.agg (oc 6 0 ByteArray.empty ByteArray.empty Z32 (.slice none 0 0)).toArray from rfl) (oc_sz rfl) (oc_sz rfl) (oc_one _ _ _ _ _ _ _ _) ?_; have f1 := HM.out.free 2 rfl 1; have f2 := HM.out.free 2 rfl 2; have f3 := HM.out.free 2 rfl 3; have c1 := HM.out.cell 2 rfl 1 rfl; have c2 := HM.out.cell 2 rfl 2 rfl; have c3 := HM.out.cell 2 rfl 3 rfl) | (go_at_call 39; refine (of_any _ (HT.out.keep HM.out.keep (fun e => HB.out e.symm)) 6).mono ?_; rw [show pk 6 = 12 from rfl]; rintro e w9 ⟨rfl, rfl⟩) | (go_at_call 77; refine (oid_m HM.out 0 rfl Hx.out Hpx.out).mono ?_; rintro e w1 ⟨rfl, h1⟩; have HM : Hid _ := h1; clear h1) | (refine St.wl_storeMid tyI rfl rfl rfl rfl rfl (cs := (r.map bv).toArray) (by rw [List.size_toArray, List.length_map]; exact Hr.out) (one_bv r) (HM.out.get 2 rfl) (by rw [oc_sz rfl]; decide) (oc_mid 6 0 ByteArray.empty ByteArray.empty Z32 r _ rfl) ?_; have HM : Hid (M (fun k => k = b) w _ [rd b s _ _, blk w.heap.size (.cells (oc 0 0 ByteArray.empty ByteArray.empty Z32 (.slice none 0 0)).toArray 27), blk (w.heap.size + 1) (.cells (oc 6 0 ByteArray.empty ByteArray.empty r (.slice none 0 0)).toArray 27)]) := HM.out.setr 2 rfl (oc 6 0 ByteArray.empty ByteArray.empty r (.slice none 0 0)).toArray; have f1 := HM.out.free 2 rfl 1; have f2 := HM.out.free 2 rfl 2; have f3 := HM.out.free 2 rfl 3; have c1 := HM.out.cell 2 rfl 1 rfl; have c2 := HM.out.cell 2 rfl 2 rfl; have c3 := HM.out.cell 2 rfl 3 rfl) | (go_at_call_has 70 (Value.int .i64 nV); refine (M.rraw HM.out 0 rfl HrV.out).mono ?_; rintro e w2 ⟨rfl, h1⟩; have HM : Hid _ := h1; clear h1; have f1 := HM.out.free 2 rfl 1; have f2 := HM.out.free 2 rfl 2; have f3 := HM.out.free 2 rfl 3; have c1 := HM.out.cell 2 rfl 1 rfl; have c2 := HM.out.cell 2 rfl 2 rfl; have c3 := HM.out.cell 2 rfl 3 rfl; have HM : Hid (M (fun k => k = b) w _ [rd b s _ _, blk w.heap.size (.cells (oc 0 0 ByteArray.empty ByteArray.empty Z32 (.slice none 0 0)).toArray 27), blk (w.heap.size + 1) (.cells (oc 6 0 ByteArray.empty V r (.slice none 0 0)).toArray 27)]) := HM.out.setc 2 rfl 3 (.string V); have f1 := HM.out.free 2 rfl 1; have f2 := HM.out.free 2 rfl 2; have f3 := HM.out.free 2 rfl 3; have c1 := HM.out.cell 2 rfl 1 rfl; have c2 := HM.out.cell 2 rfl 2 rfl; have c3 := HM.out.cell 2 rfl 3 rfl) | (go_at_call_has 37 (Value.int .i64 1); (first | (with_reducible refine (M.rnum HM.out 0 rfl HnV.out).mono ?_)); rintro e w5 ⟨rfl, h1⟩; have HM : Hid _ := h1; clear h1) | (refine St.wl_load tyO (by rfl) rfl rfl (HM.out.range 2 rfl) (oc_len _ _ _ _ _ _ Hr.out) ?_; simp only [Act.put, List.setIfInBounds_toArray, List.set_cons_zero, List.set_cons_succ]) | (refine St.wl_store tyO rfl rfl rfl rfl rfl (oc_sz Hr.out) (oc_one _ _ _ _ _ _ _ _) (HM.out.get 1 rfl) (oc_sz rfl) ?_))
  refine bodyPost_ret (St.res1 tyO rfl _ _ w.heap.size _ (oc_sz Hr.out) rfl ((HM.out.setr 1 rfl (oc 6 0 ByteArray.empty V r (.slice none 0 0)).toArray).get 1 rfl)) rfl ?_
  exact ⟨_, rfl, Own.nil _, (HM.out.setr 1 rfl (oc 6 0 ByteArray.empty V r (.slice none 0 0)).toArray).get 0 rfl, (HM.out.setr 1 rfl (oc 6 0 ByteArray.empty V r (.slice none 0 0)).toArray).keep, fun k hk => by simp [Value.ownBlock] at hk⟩
set_option maxRecDepth 100000 in
set_option maxHeartbeats 4000000 in
theorem take_7 (w : World) (hT : TabP w) (b : Nat) (s : ByteArray) (a a1 a2 a3 a4 a5 : Nat) (bad b1 b2 b3 b4 b5 : Int) (r : List UInt8) (Y V : ByteArray) (m : Nat) (l : List (List UInt8)) (h : IsR w b s a bad) (hbt : b ≠ 0) (hR : rdR s a bad (iR 7) = (r, a1, b1)) (hY : rdT s a1 b1 (iK 7) = (Y, a2, b2)) (hV : rdT s a2 b2 (iV 7) = (V, a3, b3)) (hN : rdN s a3 b3 (iN 7) = (m, a4, b4)) (hS : rdS s a4 b4 (iS 7) = (l, a5, b5)) :
    Calls Tryd.prog 40 #[.pointer (some ⟨b, 0, none⟩), .int .i64 7] w fun e w' => ∃ v, e = .returned (.agg (oc 7 (nv 7 m) Y V r v).toArray) ∧ Own w' v l ∧ IsR w' b s a5 b5 ∧ Keep (fun k => k = b) w w' ∧ (∀ k, v.ownBlock = some k → w.heap.size ≤ k) := by
  obtain ⟨⟨x, a9, b9⟩, hx⟩ : ∃ p, rraw s a bad 32 = p := ⟨_, rfl⟩
  have h' : (pad x.data.toList, a9, b9) = (r, a1, b1) := by have := hR; unfold rdR at this; simp only [hx] at this; exact this
  simp only [Prod.mk.injEq] at h'
  obtain ⟨e1, e2, e3⟩ := h'
  replace e2 := e2.symm
  replace e3 := e3.symm
  subst e2 e3
  have hx32 : x.size ≤ 32 := by have := rraw_32 s a bad; rw [hx] at this; exact this
  have Hx : Hid _ := hx
  have Hpx : Hid (pad x.data.toList = r) := e1
  have Hr : Hid (r.length = 32) := by show _ = _; rw [← e1]; exact pad_len x.data.toList (by rw [Array.length_toList]; exact hx32)
  clear hx hR e1 hx32
  have h' : ((ByteArray.empty : ByteArray), a1, b1) = (Y, a2, b2) := hY
  simp only [Prod.mk.injEq] at h'
  obtain ⟨e1, e2, e3⟩ := h'
  subst e1
  replace e2 := e2.symm
  replace e3 := e3.symm
  subst e2 e3
  clear hY
  have h' : ((ByteArray.empty : ByteArray), a2, b2) = (V, a3, b3) := hV
  simp only [Prod.mk.injEq] at h'
  obtain ⟨e1, e2, e3⟩ := h'
  subst e1
  replace e2 := e2.symm
  replace e3 := e3.symm
  subst e2 e3
  clear hV
  have h' : ((0 : Nat), a3, b3) = (m, a4, b4) := hN
  simp only [Prod.mk.injEq] at h'
  obtain ⟨e1, e2, e3⟩ := h'
  subst e1
  replace e2 := e2.symm
  replace e3 := e3.symm
  subst e2 e3
  clear hN
  have h' : (([] : List (List UInt8)), a4, b4) = (l, a5, b5) := hS
  simp only [Prod.mk.injEq] at h'
  obtain ⟨e1, e2, e3⟩ := h'
  subst e1
  replace e2 := e2.symm
  replace e3 := e3.symm
  subst e2 e3
  clear hS
  have HNv : Hid (nv 7 0 = 0) := (rfl : nv 7 0 = 0)
  rw [HNv.out]
  have hbw := lt_of_block h.blk
  have HT : Hid (TabP w) := hT
  have HB : Hid (b ≠ 0) := hbt
  have HM : Hid (M (fun k => k = b) w _ [rd b s _ _, blk w.heap.size (.cells (oc 0 0 ByteArray.empty ByteArray.empty Z32 (.slice none 0 0)).toArray 27), blk (w.heap.size + 1) (.cells (oc 7 0 ByteArray.empty ByteArray.empty Z32 (.slice none 0 0)).toArray 27)]) := ((M.start1 (x := rd b s _ _) h (fun k hk => by cases hk; exact hbw)).alloc (.cells (oc 0 0 ByteArray.empty ByteArray.empty Z32 (.slice none 0 0)).toArray 27) rfl).alloc (.cells (oc 7 0 ByteArray.empty ByteArray.empty Z32 (.slice none 0 0)).toArray 27) (by simp)
  clear h hT hbt
  go_enter Tryd.func40, Tryd.ntmps40
  go_wp2_with (first | (refine St.wl_alloc tyO rfl rfl (by (try simp only [World.size_alloc]); rfl) ?_; simp only [Act.put, List.setIfInBounds_toArray, List.set_cons_zero, List.set_cons_succ]) | (refine St.wl_buildV rfl rfl (cs := (oc 7 0 ByteArray.empty ByteArray.empty Z32 (.slice none 0 0)).toArray) (by kernel_rfl) ?_; simp only [Act.put, List.setIfInBounds_toArray, List.set_cons_zero, List.set_cons_succ]) | (refine St.wl_storeN tyO rfl rfl rfl rfl rfl (by (try simp only [World.size_alloc])) (show _ = Value.agg (oc 7 0 ByteArray.empty ByteArray.empty Z32 (.slice none 0 0)).toArray from rfl) (oc_sz rfl) (oc_sz rfl) (oc_one _ _ _ _ _ _ _ _) ?_; have f1 := HM.out.free 2 rfl 1; have f2 := HM.out.free 2 rfl 2; have f3 := HM.out.free 2 rfl 3; have c1 := HM.out.cell 2 rfl 1 rfl; have c2 := HM.out.cell 2 rfl 2 rfl; have c3 := HM.out.cell 2 rfl 3 rfl) | (go_at_call 39; refine (of_any _ (HT.out.keep HM.out.keep (fun e => HB.out e.symm)) 7).mono ?_; rw [show pk 7 = 8 from rfl]; rintro e w9 ⟨rfl, rfl⟩) | (go_at_call 77; refine (oid_m HM.out 0 rfl Hx.out Hpx.out).mono ?_; rintro e w1 ⟨rfl, h1⟩; have HM : Hid _ := h1; clear h1) | (refine St.wl_storeMid tyI rfl rfl rfl rfl rfl (cs := (r.map bv).toArray) (by rw [List.size_toArray, List.length_map]; exact Hr.out) (one_bv r) (HM.out.get 2 rfl) (by rw [oc_sz rfl]; decide) (oc_mid 7 0 ByteArray.empty ByteArray.empty Z32 r _ rfl) ?_; have HM : Hid (M (fun k => k = b) w _ [rd b s _ _, blk w.heap.size (.cells (oc 0 0 ByteArray.empty ByteArray.empty Z32 (.slice none 0 0)).toArray 27), blk (w.heap.size + 1) (.cells (oc 7 0 ByteArray.empty ByteArray.empty r (.slice none 0 0)).toArray 27)]) := HM.out.setr 2 rfl (oc 7 0 ByteArray.empty ByteArray.empty r (.slice none 0 0)).toArray; have f1 := HM.out.free 2 rfl 1; have f2 := HM.out.free 2 rfl 2; have f3 := HM.out.free 2 rfl 3; have c1 := HM.out.cell 2 rfl 1 rfl; have c2 := HM.out.cell 2 rfl 2 rfl; have c3 := HM.out.cell 2 rfl 3 rfl) | (refine St.wl_load tyO (by rfl) rfl rfl (HM.out.range 2 rfl) (oc_len _ _ _ _ _ _ Hr.out) ?_; simp only [Act.put, List.setIfInBounds_toArray, List.set_cons_zero, List.set_cons_succ]) | (refine St.wl_store tyO rfl rfl rfl rfl rfl (oc_sz Hr.out) (oc_one _ _ _ _ _ _ _ _) (HM.out.get 1 rfl) (oc_sz rfl) ?_))
  refine bodyPost_ret (St.res1 tyO rfl _ _ w.heap.size _ (oc_sz Hr.out) rfl ((HM.out.setr 1 rfl (oc 7 0 ByteArray.empty ByteArray.empty r (.slice none 0 0)).toArray).get 1 rfl)) rfl ?_
  exact ⟨_, rfl, Own.nil _, (HM.out.setr 1 rfl (oc 7 0 ByteArray.empty ByteArray.empty r (.slice none 0 0)).toArray).get 0 rfl, (HM.out.setr 1 rfl (oc 7 0 ByteArray.empty ByteArray.empty r (.slice none 0 0)).toArray).keep, fun k hk => by simp [Value.ownBlock] at hk⟩
end Ox
end Go.Proofs.YtfoplimdbapdfaaDoor
