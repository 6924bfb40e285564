/-
  petrelref07.Put.
-/
import Derived.Test.YtfoplimdbapdfaaDoorOxD
import Derived.Test.YtfoplimdbapdfaaDoorOxB
set_option linter.unusedVariables false
set_option linter.unusedSimpArgs false
namespace Go.Proofs.YtfoplimdbapdfaaDoor
open Go.RowKit
namespace Ox
open Oct Ids
open OctRd (be_len)
open Mem

theorem sz_of (l : List UInt8) (k : Nat) (h : l.length = k) (B : ByteArray) (hB : (⟨l.toArray⟩ : ByteArray) = B) : B.size = k := by rw [← hB, Byt.arr_size, h]
theorem ls_of (l : List UInt8) (B : ByteArray) (hB : (⟨l.toArray⟩ : ByteArray) = B) : B.data.toList = l := by rw [← hB]
theorem cat_part {S B : ByteArray} {x p : List UInt8} {P : List (List UInt8)} {k : Nat} (h : S.data.toList = x ++ (P.take k).flatten) (hk : P[k]? = some p) (hB : (⟨p.toArray⟩ : ByteArray) = B) : (S ++ B).data.toList = x ++ (P.take (k + 1)).flatten := by
  rw [take_flat P k p hk, ← List.append_assoc, ← h, ← ls_of p B hB]
  simp
theorem ob_of {S : ByteArray} {x : List UInt8} (h : S.data.toList = x) : S = ⟨x.toArray⟩ := by rw [← h]
set_option maxRecDepth 100000 in
set_option maxHeartbeats 4000000 in
theorem rput_1 (w : World) (N : Int) (Y V : ByteArray) (r : List UInt8) (a : Option Addr) (n c : Nat) (l : List (List UInt8)) (hr : r.length = 32) (h : At w a n l) (hv : ck 1 N Y V r n l = 0) :
    Calls Tryd.prog 16 #[.agg (oc 1 N Y V r (.slice a n c)).toArray] w fun e w' => e = .returned (.tuple #[.string ⟨(ob 1 N Y V r l).toArray⟩, .int .i64 0]) ∧ Keep (fun _ => False) w w' := by
  obtain ⟨_, _, hY16, hV16, hnb, hn8, _⟩ := ck_ok hv
  obtain ⟨n1, n2, n3⟩ := nb_rng hnb
  have A1 : Hid (At w a n l) := h
  have Hv : Hid (ck 1 N Y V r n l = 0) := hv
  have Hr : Hid (r.length = 32) := hr
  have HM : Hid (M (fun _ => False) w _ [blk w.heap.size (.cells (oc 1 N Y V r (.slice a n c)).toArray 27)]) := (M.start _ w).alloc _ rfl
  have E0 : Hid _ := OAt.new (K := 1) (N := N) (Y := Y) (V := V) (rv := .slice a n c) w hr
  generalize hX : (oc 1 N Y V r (.slice a n c)).toArray = X at E0 HM ⊢
  have HX : Hid ((oc 1 N Y V r (.slice a n c)).toArray = X) := hX
  obtain ⟨g0, g1, g2, g3, g36⟩ := E0.out.cells
  have HO : Hid (ob 1 N Y V r l = be 1 1 ++ ([be 4 (N + shf 1)]).flatten) := (by simp [ob, body, show iR 1 = false from rfl, show iK 1 = false from rfl, show iV 1 = false from rfl, show iN 1 = true from rfl, show iS 1 = false from rfl] : ob 1 N Y V r l = be 1 1 ++ ([be 4 (N + shf 1)]).flatten)
  obtain ⟨BK, hBK⟩ : ∃ B : ByteArray, (⟨(be 1 1).toArray⟩ : ByteArray) = B := ⟨_, rfl⟩
  have zBK : BK.size = 1 := sz_of _ 1 (be_len 1 _) BK hBK
  have HBK : Hid _ := hBK
  clear hBK
  obtain ⟨BN, hBN⟩ : ∃ B : ByteArray, (⟨(be 4 (N + shf 1)).toArray⟩ : ByteArray) = B := ⟨_, rfl⟩
  have HBN : Hid ((⟨(be 4 (N + shf 1)).toArray⟩ : ByteArray) = BN) := hBN
  have zBN : BN.size = 4 := sz_of _ 4 (be_len 4 _) BN hBN
  clear hBN
  obtain ⟨m, hm⟩ : ∃ m, N + 2147483648 = m := ⟨_, rfl⟩
  have hw : IntKind.i64.wrap (N + 2147483648) = m := by rw [hm]; exact IntWalk.i64_in _ (by omega)
  have hm0 : 0 ≤ m := by omega
  have hm1 : m < 4294967296 := by omega
  have HBm : Hid ((⟨(be 4 m).toArray⟩ : ByteArray) = BN) := by show _ = _; rw [← hm]; exact HBN.out
  clear hm
  clear hX hr h hv hnb
  go_enter Tryd.func16, Tryd.ntmps16
  go_wp2_with (first | (go_at_call 18; refine (rcheck_any _ 1 N Y V r a n c l Hr.out (A1.out.calm HM.out.keep) 0 Hv.out).mono ?_; rintro e w1 ⟨rfl, k1⟩; have HM : Hid _ := HM.out.calm k1; clear k1; have E0 : Hid (OAt _ w.heap.size 1 N Y V r (.slice a n c)) := ⟨by rw [HX.out]; exact HM.out.get 0 rfl, Hr.out⟩; obtain ⟨g0, g1, g2, g3, g36⟩ := E0.out.cells) | (refine St.wl_load tyO (by rfl) rfl rfl E0.out.all (oc_len _ _ _ _ _ _ Hr.out) ?_; simp only [Act.put, List.setIfInBounds_toArray, List.set_cons_zero, List.set_cons_succ]) | (go_at_call_has 52 (Value.int .i64 1); refine (Ref.num1 _ 1 (by omega) (by omega)).mono ?_; rw [HBK.out]; rintro e w2 ⟨rfl, k1⟩; have HM : Hid _ := HM.out.calm k1; clear k1; have E0 : Hid (OAt _ w.heap.size 1 N Y V r (.slice a n c)) := ⟨by rw [HX.out]; exact HM.out.get 0 rfl, Hr.out⟩; obtain ⟨g0, g1, g2, g3, g36⟩ := E0.out.cells) | (go_at_call 43; refine (has_any _ 1 (by decide)).mono ?_; rintro e w3 ⟨rfl, rfl⟩))
  go_loopw [5, 8, 9, 10, 11] (fun o i _ _ _ wr => ∃ (k : Nat) (S : ByteArray), k ≤ 1 ∧ i = .int .i64 k ∧ o = .string S ∧ S.data.toList = be 1 1 ++ (([be 4 (N + shf 1)]).take k).flatten ∧ S.size ≤ 1 + 300 * k ∧ M (fun _ => False) w wr [blk w.heap.size (.cells X 27)]) (fun _ i _ _ _ _ => 1 - (intOf i).toNat)
  case atStart => exact ⟨0, BK, Nat.zero_le _, rfl, rfl, by rw [ls_of _ BK HBK.out]; simp, by omega, HM.out⟩
  case round =>
    obtain ⟨k, S, hk, rfl, rfl, hS, hSz, hM⟩ := hrel
    have HM : Hid _ := hM
    have HS : Hid _ := hS
    clear hM hS
    have E0 : Hid (OAt _ w.heap.size 1 N Y V r (.slice a n c)) := ⟨by rw [HX.out]; exact HM.out.get 0 rfl, Hr.out⟩; obtain ⟨g0, g1, g2, g3, g36⟩ := E0.out.cells
    rcases (by omega : k = 0 ∨ k = 1) with rfl | rfl
    · go_wp2_with (first | (go_at_call_has 52 (Value.int .i64 4); refine (Ref.num4 _ m hm0 hm1).mono ?_; rw [HBm.out]; rintro e w5 ⟨rfl, k1⟩; have HM : Hid _ := HM.out.calm k1; clear k1; have E0 : Hid (OAt _ w.heap.size 1 N Y V r (.slice a n c)) := ⟨by rw [HX.out]; exact HM.out.get 0 rfl, Hr.out⟩; obtain ⟨g0, g1, g2, g3, g36⟩ := E0.out.cells))
      go_roundw
      case rel => exact ⟨1, _, by omega, rfl, rfl, cat_part HS.out rfl HBN.out, by rw [ByteArray.size_append]; omega, HM.out⟩
      case measure => simp [intOf]
    · go_wp2
      go_ret2
      have e : S = ⟨(ob 1 N Y V r l).toArray⟩ := ob_of (by rw [HO.out]; exact HS.out)
      rw [← e]
      exact ⟨rfl, HM.out.keep⟩
set_option maxRecDepth 100000 in
set_option maxHeartbeats 4000000 in
theorem rput_2 (w : World) (N : Int) (Y V : ByteArray) (r : List UInt8) (a : Option Addr) (n c : Nat) (l : List (List UInt8)) (hr : r.length = 32) (h : At w a n l) (hv : ck 2 N Y V r n l = 0) :
    Calls Tryd.prog 16 #[.agg (oc 2 N Y V r (.slice a n c)).toArray] w fun e w' => e = .returned (.tuple #[.string ⟨(ob 2 N Y V r l).toArray⟩, .int .i64 0]) ∧ Keep (fun _ => False) w w' := by
  obtain ⟨_, _, hY16, hV16, hnb, hn8, _⟩ := ck_ok hv
  obtain ⟨n1, n2, n3⟩ := nb_rng hnb
  have A1 : Hid (At w a n l) := h
  have Hv : Hid (ck 2 N Y V r n l = 0) := hv
  have Hr : Hid (r.length = 32) := hr
  have HM : Hid (M (fun _ => False) w _ [blk w.heap.size (.cells (oc 2 N Y V r (.slice a n c)).toArray 27)]) := (M.start _ w).alloc _ rfl
  have E0 : Hid _ := OAt.new (K := 2) (N := N) (Y := Y) (V := V) (rv := .slice a n c) w hr
  generalize hX : (oc 2 N Y V r (.slice a n c)).toArray = X at E0 HM ⊢
  have HX : Hid ((oc 2 N Y V r (.slice a n c)).toArray = X) := hX
  obtain ⟨g0, g1, g2, g3, g36⟩ := E0.out.cells
  have HO : Hid (ob 2 N Y V r l = be 1 2 ++ ([sh V]).flatten) := (by simp [ob, body, show iR 2 = false from rfl, show iK 2 = false from rfl, show iV 2 = true from rfl, show iN 2 = false from rfl, show iS 2 = false from rfl] : ob 2 N Y V r l = be 1 2 ++ ([sh V]).flatten)
  obtain ⟨BK, hBK⟩ : ∃ B : ByteArray, (⟨(be 1 2).toArray⟩ : ByteArray) = B := ⟨_, rfl⟩
  have zBK : BK.size = 1 := sz_of _ 1 (be_len 1 _) BK hBK
  have HBK : Hid _ := hBK
  clear hBK
  obtain ⟨BV, hBV⟩ : ∃ B : ByteArray, (⟨(sh V).toArray⟩ : ByteArray) = B := ⟨_, rfl⟩
  have HBV : Hid ((⟨(sh V).toArray⟩ : ByteArray) = BV) := hBV
  have zBV : BV.size ≤ 17 := by rw [sz_of _ _ (sh_len _) BV hBV]; omega
  clear hBV
  clear hX hr h hv hnb
  go_enter Tryd.func16, Tryd.ntmps16
  go_wp2_with (first | (go_at_call 18; refine (rcheck_any _ 2 N Y V r a n c l Hr.out (A1.out.calm HM.out.keep) 0 Hv.out).mono ?_; rintro e w1 ⟨rfl, k1⟩; have HM : Hid _ := HM.out.calm k1; clear k1; have E0 : Hid (OAt _ w.heap.size 2 N Y V r (.slice a n c)) := ⟨by rw [HX.out]; exact HM.out.get 0 rfl, Hr.out⟩; obtain ⟨g0, g1, g2, g3, g36⟩ := E0.out.cells) | (refine St.wl_load tyO (by rfl) rfl rfl E0.out.all (oc_len _ _ _ _ _ _ Hr.out) ?_; simp only [Act.put, List.setIfInBounds_toArray, List.set_cons_zero, List.set_cons_succ]) | (go_at_call_has 52 (Value.int .i64 2); refine (Ref.num1 _ 2 (by omega) (by omega)).mono ?_; rw [HBK.out]; rintro e w2 ⟨rfl, k1⟩; have HM : Hid _ := HM.out.calm k1; clear k1; have E0 : Hid (OAt _ w.heap.size 2 N Y V r (.slice a n c)) := ⟨by rw [HX.out]; exact HM.out.get 0 rfl, Hr.out⟩; obtain ⟨g0, g1, g2, g3, g36⟩ := E0.out.cells) | (go_at_call 43; refine (has_any _ 2 (by decide)).mono ?_; rintro e w3 ⟨rfl, rfl⟩))
  go_loopw [5, 8, 9, 10, 11] (fun o i _ _ _ wr => ∃ (k : Nat) (S : ByteArray), k ≤ 1 ∧ i = .int .i64 k ∧ o = .string S ∧ S.data.toList = be 1 2 ++ (([sh V]).take k).flatten ∧ S.size ≤ 1 + 300 * k ∧ M (fun _ => False) w wr [blk w.heap.size (.cells X 27)]) (fun _ i _ _ _ _ => 1 - (intOf i).toNat)
  case atStart => exact ⟨0, BK, Nat.zero_le _, rfl, rfl, by rw [ls_of _ BK HBK.out]; simp, by omega, HM.out⟩
  case round =>
    obtain ⟨k, S, hk, rfl, rfl, hS, hSz, hM⟩ := hrel
    have HM : Hid _ := hM
    have HS : Hid _ := hS
    clear hM hS
    have E0 : Hid (OAt _ w.heap.size 2 N Y V r (.slice a n c)) := ⟨by rw [HX.out]; exact HM.out.get 0 rfl, Hr.out⟩; obtain ⟨g0, g1, g2, g3, g36⟩ := E0.out.cells
    rcases (by omega : k = 0 ∨ k = 1) with rfl | rfl
    · go_wp2_with (first | (go_at_call_has 53 (Value.string V); refine (rshort_any _ V (by omega) BV HBV.out).mono ?_; rintro e w5 ⟨rfl, k1⟩; have HM : Hid _ := HM.out.calm k1; clear k1; have E0 : Hid (OAt _ w.heap.size 2 N Y V r (.slice a n c)) := ⟨by rw [HX.out]; exact HM.out.get 0 rfl, Hr.out⟩; obtain ⟨g0, g1, g2, g3, g36⟩ := E0.out.cells))
      go_roundw
      case rel => exact ⟨1, _, by omega, rfl, rfl, cat_part HS.out rfl HBV.out, by rw [ByteArray.size_append]; omega, HM.out⟩
      case measure => simp [intOf]
    · go_wp2
      go_ret2
      have e : S = ⟨(ob 2 N Y V r l).toArray⟩ := ob_of (by rw [HO.out]; exact HS.out)
      rw [← e]
      exact ⟨rfl, HM.out.keep⟩
set_option maxRecDepth 100000 in
set_option maxHeartbeats 4000000 in
theorem rput_3 (w : World) (N : Int) (Y V : ByteArray) (r : List UInt8) (a : Option Addr) (n c : Nat) (l : List (List UInt8)) (hr : r.length = 32) (h : At w a n l) (hv : ck 3 N Y V r n l = 0) :
    Calls Tryd.prog 16 #[.agg (oc 3 N Y V r (.slice a n c)).toArray] w fun e w' => e = .returned (.tuple #[.string ⟨(ob 3 N Y V r l).toArray⟩, .int .i64 0]) ∧ Keep (fun _ => False) w w' := by
  obtain ⟨_, _, hY16, hV16, hnb, hn8, _⟩ := ck_ok hv
  obtain ⟨n1, n2, n3⟩ := nb_rng hnb
  have A1 : Hid (At w a n l) := h
  have Hv : Hid (ck 3 N Y V r n l = 0) := hv
  have Hr : Hid (r.length = 32) := hr
  have HM : Hid (M (fun _ => False) w _ [blk w.heap.size (.cells (oc 3 N Y V r (.slice a n c)).toArray 27)]) := (M.start _ w).alloc _ rfl
  have E0 : Hid _ := OAt.new (K := 3) (N := N) (Y := Y) (V := V) (rv := .slice a n c) w hr
  generalize hX : (oc 3 N Y V r (.slice a n c)).toArray = X at E0 HM ⊢
  have HX : Hid ((oc 3 N Y V r (.slice a n c)).toArray = X) := hX
  obtain ⟨g0, g1, g2, g3, g36⟩ := E0.out.cells
  have HO : Hid (ob 3 N Y V r l = be 1 3 ++ ([sh V, rf l]).flatten) := (by simp [ob, body, show iR 3 = false from rfl, show iK 3 = false from rfl, show iV 3 = true from rfl, show iN 3 = false from rfl, show iS 3 = true from rfl] : ob 3 N Y V r l = be 1 3 ++ ([sh V, rf l]).flatten)
  obtain ⟨BK, hBK⟩ : ∃ B : ByteArray, (⟨(be 1 3).toArray⟩ : ByteArray) = B := ⟨_, rfl⟩
  have zBK : BK.size = 1 := sz_of _ 1 (be_len 1 _) BK hBK
  have HBK : Hid _ := hBK
  clear hBK
  obtain ⟨BV, hBV⟩ : ∃ B : ByteArray, (⟨(sh V).toArray⟩ : ByteArray) = B := ⟨_, rfl⟩
  have HBV : Hid ((⟨(sh V).toArray⟩ : ByteArray) = BV) := hBV
  have zBV : BV.size ≤ 17 := by rw [sz_of _ _ (sh_len _) BV hBV]; omega
  clear hBV
  obtain ⟨BL, hBL⟩ : ∃ B : ByteArray, (⟨(rf l).toArray⟩ : ByteArray) = B := ⟨_, rfl⟩
  have HBL : Hid ((⟨(rf l).toArray⟩ : ByteArray) = BL) := hBL
  have zBL : BL.size ≤ 257 := by rw [sz_of _ _ rfl BL hBL, rf, List.length_append, be_len, flat_len l h.size, h.len]; omega
  clear hBL
  clear hX hr h hv hnb
  go_enter Tryd.func16, Tryd.ntmps16
  go_wp2_with (first | (go_at_call 18; refine (rcheck_any _ 3 N Y V r a n c l Hr.out (A1.out.calm HM.out.keep) 0 Hv.out).mono ?_; rintro e w1 ⟨rfl, k1⟩; have HM : Hid _ := HM.out.calm k1; clear k1; have E0 : Hid (OAt _ w.heap.size 3 N Y V r (.slice a n c)) := ⟨by rw [HX.out]; exact HM.out.get 0 rfl, Hr.out⟩; obtain ⟨g0, g1, g2, g3, g36⟩ := E0.out.cells) | (refine St.wl_load tyO (by rfl) rfl rfl E0.out.all (oc_len _ _ _ _ _ _ Hr.out) ?_; simp only [Act.put, List.setIfInBounds_toArray, List.set_cons_zero, List.set_cons_succ]) | (go_at_call_has 52 (Value.int .i64 3); refine (Ref.num1 _ 3 (by omega) (by omega)).mono ?_; rw [HBK.out]; rintro e w2 ⟨rfl, k1⟩; have HM : Hid _ := HM.out.calm k1; clear k1; have E0 : Hid (OAt _ w.heap.size 3 N Y V r (.slice a n c)) := ⟨by rw [HX.out]; exact HM.out.get 0 rfl, Hr.out⟩; obtain ⟨g0, g1, g2, g3, g36⟩ := E0.out.cells) | (go_at_call 43; refine (has_any _ 3 (by decide)).mono ?_; rintro e w3 ⟨rfl, rfl⟩))
  go_loopw [5, 8, 9, 10, 11] (fun o i _ _ _ wr => ∃ (k : Nat) (S : ByteArray), k ≤ 2 ∧ i = .int .i64 k ∧ o = .string S ∧ S.data.toList = be 1 3 ++ (([sh V, rf l]).take k).flatten ∧ S.size ≤ 1 + 300 * k ∧ M (fun _ => False) w wr [blk w.heap.size (.cells X 27)]) (fun _ i _ _ _ _ => 2 - (intOf i).toNat)
  case atStart => exact ⟨0, BK, Nat.zero_le _, rfl, rfl, by rw [ls_of _ BK HBK.out]; simp, by omega, HM.out⟩
  case round =>
    obtain ⟨k, S, hk, rfl, rfl, hS, hSz, hM⟩ := hrel
    have HM : Hid _ := hM
    have HS : Hid _ := hS
    clear hM hS
    have E0 : Hid (OAt _ w.heap.size 3 N Y V r (.slice a n c)) := ⟨by rw [HX.out]; exact HM.out.get 0 rfl, Hr.out⟩; obtain ⟨g0, g1, g2, g3, g36⟩ := E0.out.cells
    rcases (by omega : k = 0 ∨ k = 1 ∨ k = 2) with rfl | rfl | rfl
    · go_wp2_with (first | (go_at_call_has 53 (Value.string V); refine (rshort_any _ V (by omega) BV HBV.out).mono ?_; rintro e w5 ⟨rfl, k1⟩; have HM : Hid _ := HM.out.calm k1; clear k1; have E0 : Hid (OAt _ w.heap.size 3 N Y V r (.slice a n c)) := ⟨by rw [HX.out]; exact HM.out.get 0 rfl, Hr.out⟩; obtain ⟨g0, g1, g2, g3, g36⟩ := E0.out.cells) | (go_at_call 55; refine (rids_v _ a n c l (A1.out.calm HM.out.keep) (by omega) BL HBL.out).mono ?_; rintro e w5 ⟨rfl, k1⟩; have HM : Hid _ := HM.out.calm k1; clear k1; have E0 : Hid (OAt _ w.heap.size 3 N Y V r (.slice a n c)) := ⟨by rw [HX.out]; exact HM.out.get 0 rfl, Hr.out⟩; obtain ⟨g0, g1, g2, g3, g36⟩ := E0.out.cells))
      go_roundw
      case rel => exact ⟨1, _, by omega, rfl, rfl, cat_part HS.out rfl HBV.out, by rw [ByteArray.size_append]; omega, HM.out⟩
      case measure => simp [intOf]
    · go_wp2_with (first | (go_at_call_has 53 (Value.string V); refine (rshort_any _ V (by omega) BV HBV.out).mono ?_; rintro e w5 ⟨rfl, k1⟩; have HM : Hid _ := HM.out.calm k1; clear k1; have E0 : Hid (OAt _ w.heap.size 3 N Y V r (.slice a n c)) := ⟨by rw [HX.out]; exact HM.out.get 0 rfl, Hr.out⟩; obtain ⟨g0, g1, g2, g3, g36⟩ := E0.out.cells) | (go_at_call 55; refine (rids_v _ a n c l (A1.out.calm HM.out.keep) (by omega) BL HBL.out).mono ?_; rintro e w5 ⟨rfl, k1⟩; have HM : Hid _ := HM.out.calm k1; clear k1; have E0 : Hid (OAt _ w.heap.size 3 N Y V r (.slice a n c)) := ⟨by rw [HX.out]; exact HM.out.get 0 rfl, Hr.out⟩; obtain ⟨g0, g1, g2, g3, g36⟩ := E0.out.cells))
      go_roundw
      case rel => exact ⟨2, _, by omega, rfl, rfl, cat_part HS.out rfl HBL.out, by rw [ByteArray.size_append]; omega, HM.out⟩
      case measure => simp [intOf]
    · go_wp2
      go_ret2
      have e : S = ⟨(ob 3 N Y V r l).toArray⟩ := ob_of (by rw [HO.out]; exact HS.out)
      rw [← e]
      exact ⟨rfl, HM.out.keep⟩
set_option maxRecDepth 100000 in
set_option maxHeartbeats 4000000 in
theorem rput_4 (w : World) (N : Int) (Y V : ByteArray) (r : List UInt8) (a : Option Addr) (n c : Nat) (l : List (List UInt8)) (hr : r.length = 32) (h : At w a n l) (hv : ck 4 N Y V r n l = 0) :
    Calls Tryd.prog 16 #[.agg (oc 4 N Y V r (.slice a n c)).toArray] w fun e w' => e = .returned (.tuple #[.string ⟨(ob 4 N Y V r l).toArray⟩, .int .i64 0]) ∧ Keep (fun _ => False) w w' := by
  obtain ⟨_, _, hY16, hV16, hnb, hn8, _⟩ := ck_ok hv
  obtain ⟨n1, n2, n3⟩ := nb_rng hnb
  have A1 : Hid (At w a n l) := h
  have Hv : Hid (ck 4 N Y V r n l = 0) := hv
  have Hr : Hid (r.length = 32) := hr
  have HM : Hid (M (fun _ => False) w _ [blk w.heap.size (.cells (oc 4 N Y V r (.slice a n c)).toArray 27)]) := (M.start _ w).alloc _ rfl
  have E0 : Hid _ := OAt.new (K := 4) (N := N) (Y := Y) (V := V) (rv := .slice a n c) w hr
  generalize hX : (oc 4 N Y V r (.slice a n c)).toArray = X at E0 HM ⊢
  have HX : Hid ((oc 4 N Y V r (.slice a n c)).toArray = X) := hX
  obtain ⟨g0, g1, g2, g3, g36⟩ := E0.out.cells
  have HO : Hid (ob 4 N Y V r l = be 1 4 ++ ([sh Y, sh V, be 4 (N + shf 4)]).flatten) := (by simp [ob, body, show iR 4 = false from rfl, show iK 4 = true from rfl, show iV 4 = true from rfl, show iN 4 = true from rfl, show iS 4 = false from rfl] : ob 4 N Y V r l = be 1 4 ++ ([sh Y, sh V, be 4 (N + shf 4)]).flatten)
  obtain ⟨BK, hBK⟩ : ∃ B : ByteArray, (⟨(be 1 4).toArray⟩ : ByteArray) = B := ⟨_, rfl⟩
  have zBK : BK.size = 1 := sz_of _ 1 (be_len 1 _) BK hBK
  have HBK : Hid _ := hBK
  clear hBK
  obtain ⟨BY, hBY⟩ : ∃ B : ByteArray, (⟨(sh Y).toArray⟩ : ByteArray) = B := ⟨_, rfl⟩
  have HBY : Hid ((⟨(sh Y).toArray⟩ : ByteArray) = BY) := hBY
  have zBY : BY.size ≤ 17 := by rw [sz_of _ _ (sh_len _) BY hBY]; omega
  clear hBY
  obtain ⟨BV, hBV⟩ : ∃ B : ByteArray, (⟨(sh V).toArray⟩ : ByteArray) = B := ⟨_, rfl⟩
  have HBV : Hid ((⟨(sh V).toArray⟩ : ByteArray) = BV) := hBV
  have zBV : BV.size ≤ 17 := by rw [sz_of _ _ (sh_len _) BV hBV]; omega
  clear hBV
  obtain ⟨BN, hBN⟩ : ∃ B : ByteArray, (⟨(be 4 (N + shf 4)).toArray⟩ : ByteArray) = B := ⟨_, rfl⟩
  have HBN : Hid ((⟨(be 4 (N + shf 4)).toArray⟩ : ByteArray) = BN) := hBN
  have zBN : BN.size = 4 := sz_of _ 4 (be_len 4 _) BN hBN
  clear hBN
  have hm0 : 0 ≤ N := n3 rfl
  have hm1 : N < 4294967296 := by omega
  have HBm : Hid ((⟨(be 4 N).toArray⟩ : ByteArray) = BN) := by show _ = _; have e := HBN.out; rwa [show N + shf 4 = N from Int.add_zero N] at e
  clear hX hr h hv hnb
  go_enter Tryd.func16, Tryd.ntmps16
  go_wp2_with (first | (go_at_call 18; refine (rcheck_any _ 4 N Y V r a n c l Hr.out (A1.out.calm HM.out.keep) 0 Hv.out).mono ?_; rintro e w1 ⟨rfl, k1⟩; have HM : Hid _ := HM.out.calm k1; clear k1; have E0 : Hid (OAt _ w.heap.size 4 N Y V r (.slice a n c)) := ⟨by rw [HX.out]; exact HM.out.get 0 rfl, Hr.out⟩; obtain ⟨g0, g1, g2, g3, g36⟩ := E0.out.cells) | (refine St.wl_load tyO (by rfl) rfl rfl E0.out.all (oc_len _ _ _ _ _ _ Hr.out) ?_; simp only [Act.put, List.setIfInBounds_toArray, List.set_cons_zero, List.set_cons_succ]) | (go_at_call_has 52 (Value.int .i64 4); refine (Ref.num1 _ 4 (by omega) (by omega)).mono ?_; rw [HBK.out]; rintro e w2 ⟨rfl, k1⟩; have HM : Hid _ := HM.out.calm k1; clear k1; have E0 : Hid (OAt _ w.heap.size 4 N Y V r (.slice a n c)) := ⟨by rw [HX.out]; exact HM.out.get 0 rfl, Hr.out⟩; obtain ⟨g0, g1, g2, g3, g36⟩ := E0.out.cells) | (go_at_call 43; refine (has_any _ 4 (by decide)).mono ?_; rintro e w3 ⟨rfl, rfl⟩))
  go_loopw [5, 8, 9, 10, 11] (fun o i _ _ _ wr => ∃ (k : Nat) (S : ByteArray), k ≤ 3 ∧ i = .int .i64 k ∧ o = .string S ∧ S.data.toList = be 1 4 ++ (([sh Y, sh V, be 4 (N + shf 4)]).take k).flatten ∧ S.size ≤ 1 + 300 * k ∧ M (fun _ => False) w wr [blk w.heap.size (.cells X 27)]) (fun _ i _ _ _ _ => 3 - (intOf i).toNat)
  case atStart => exact ⟨0, BK, Nat.zero_le _, rfl, rfl, by rw [ls_of _ BK HBK.out]; simp, by omega, HM.out⟩
  case round =>
    obtain ⟨k, S, hk, rfl, rfl, hS, hSz, hM⟩ := hrel
    have HM : Hid _ := hM
    have HS : Hid _ := hS
    clear hM hS
    have E0 : Hid (OAt _ w.heap.size 4 N Y V r (.slice a n c)) := ⟨by rw [HX.out]; exact HM.out.get 0 rfl, Hr.out⟩; obtain ⟨g0, g1, g2, g3, g36⟩ := E0.out.cells
    rcases (by omega : k = 0 ∨ k = 1 ∨ k = 2 ∨ k = 3) with rfl | rfl | rfl | rfl
    · go_wp2_with (first | (go_at_call_has 53 (Value.string Y); refine (rshort_any _ Y (by omega) BY HBY.out).mono ?_; rintro e w5 ⟨rfl, k1⟩; have HM : Hid _ := HM.out.calm k1; clear k1; have E0 : Hid (OAt _ w.heap.size 4 N Y V r (.slice a n c)) := ⟨by rw [HX.out]; exact HM.out.get 0 rfl, Hr.out⟩; obtain ⟨g0, g1, g2, g3, g36⟩ := E0.out.cells) | (go_at_call_has 53 (Value.string V); refine (rshort_any _ V (by omega) BV HBV.out).mono ?_; rintro e w5 ⟨rfl, k1⟩; have HM : Hid _ := HM.out.calm k1; clear k1; have E0 : Hid (OAt _ w.heap.size 4 N Y V r (.slice a n c)) := ⟨by rw [HX.out]; exact HM.out.get 0 rfl, Hr.out⟩; obtain ⟨g0, g1, g2, g3, g36⟩ := E0.out.cells) | (go_at_call_has 52 (Value.int .i64 4); refine (Ref.num4 _ N hm0 hm1).mono ?_; rw [HBm.out]; rintro e w5 ⟨rfl, k1⟩; have HM : Hid _ := HM.out.calm k1; clear k1; have E0 : Hid (OAt _ w.heap.size 4 N Y V r (.slice a n c)) := ⟨by rw [HX.out]; exact HM.out.get 0 rfl, Hr.out⟩; obtain ⟨g0, g1, g2, g3, g36⟩ := E0.out.cells))
      go_roundw
      case rel => exact ⟨1, _, by omega, rfl, rfl, cat_part HS.out rfl HBY.out, by rw [ByteArray.size_append]; omega, HM.out⟩
      case measure => simp [intOf]
    · go_wp2_with (first | (go_at_call_has 53 (Value.string Y); refine (rshort_any _ Y (by omega) BY HBY.out).mono ?_; rintro e w5 ⟨rfl, k1⟩; have HM : Hid _ := HM.out.calm k1; clear k1; have E0 : Hid (OAt _ w.heap.size 4 N Y V r (.slice a n c)) := ⟨by rw [HX.out]; exact HM.out.get 0 rfl, Hr.out⟩; obtain ⟨g0, g1, g2, g3, g36⟩ := E0.out.cells) | (go_at_call_has 53 (Value.string V); refine (rshort_any _ V (by omega) BV HBV.out).mono ?_; rintro e w5 ⟨rfl, k1⟩; have HM : Hid _ := HM.out.calm k1; clear k1; have E0 : Hid (OAt _ w.heap.size 4 N Y V r (.slice a n c)) := ⟨by rw [HX.out]; exact HM.out.get 0 rfl, Hr.out⟩; obtain ⟨g0, g1, g2, g3, g36⟩ := E0.out.cells) | (go_at_call_has 52 (Value.int .i64 4); refine (Ref.num4 _ N hm0 hm1).mono ?_; rw [HBm.out]; rintro e w5 ⟨rfl, k1⟩; have HM : Hid _ := HM.out.calm k1; clear k1; have E0 : Hid (OAt _ w.heap.size 4 N Y V r (.slice a n c)) := ⟨by rw [HX.out]; exact HM.out.get 0 rfl, Hr.out⟩; obtain ⟨g0, g1, g2, g3, g36⟩ := E0.out.cells))
      go_roundw
      case rel => exact ⟨2, _, by omega, rfl, rfl, cat_part HS.out rfl HBV.out, by rw [ByteArray.size_append]; omega, HM.out⟩
      case measure => simp [intOf]
    · go_wp2_with (first | (go_at_call_has 53 (Value.string Y); refine (rshort_any _ Y (by omega) BY HBY.out).mono ?_; rintro e w5 ⟨rfl, k1⟩; have HM : Hid _ := HM.out.calm k1; clear k1; have E0 : Hid (OAt _ w.heap.size 4 N Y V r (.slice a n c)) := ⟨by rw [HX.out]; exact HM.out.get 0 rfl, Hr.out⟩; obtain ⟨g0, g1, g2, g3, g36⟩ := E0.out.cells) | (go_at_call_has 53 (Value.string V); refine (rshort_any _ V (by omega) BV HBV.out).mono ?_; rintro e w5 ⟨rfl, k1⟩; have HM : Hid _ := HM.out.calm k1; clear k1; have E0 : Hid (OAt _ w.heap.size 4 N Y V r (.slice a n c)) := ⟨by rw [HX.out]; exact HM.out.get 0 rfl, Hr.out⟩; obtain ⟨g0, g1, g2, g3, g36⟩ := E0.out.cells) | (go_at_call_has 52 (Value.int .i64 4); refine (Ref.num4 _ N hm0 hm1).mono ?_; rw [HBm.out]; rintro e w5 ⟨rfl, k1⟩; have HM : Hid _ := HM.out.calm k1; clear k1; have E0 : Hid (OAt _ w.heap.size 4 N Y V r (.slice a n c)) := ⟨by rw [HX.out]; exact HM.out.get 0 rfl, Hr.out⟩; obtain ⟨g0, g1, g2, g3, g36⟩ := E0.out.cells))
      go_roundw
      case rel => exact ⟨3, _, by omega, rfl, rfl, cat_part HS.out rfl HBN.out, by rw [ByteArray.size_append]; omega, HM.out⟩
      case measure => simp [intOf]
    · go_wp2
      go_ret2
      have e : S = ⟨(ob 4 N Y V r l).toArray⟩ := ob_of (by rw [HO.out]; exact HS.out)
      rw [← e]
      exact ⟨rfl, HM.out.keep⟩
set_option maxRecDepth 100000 in
set_option maxHeartbeats 4000000 in
theorem rput_5 (w : World) (N : Int) (Y V : ByteArray) (r : List UInt8) (a : Option Addr) (n c : Nat) (l : List (List UInt8)) (hr : r.length = 32) (h : At w a n l) (hv : ck 5 N Y V r n l = 0) :
    Calls Tryd.prog 16 #[.agg (oc 5 N Y V r (.slice a n c)).toArray] w fun e w' => e = .returned (.tuple #[.string ⟨(ob 5 N Y V r l).toArray⟩, .int .i64 0]) ∧ Keep (fun _ => False) w w' := by
  obtain ⟨_, _, hY16, hV16, hnb, hn8, _⟩ := ck_ok hv
  obtain ⟨n1, n2, n3⟩ := nb_rng hnb
  have A1 : Hid (At w a n l) := h
  have Hv : Hid (ck 5 N Y V r n l = 0) := hv
  have Hr : Hid (r.length = 32) := hr
  have HM : Hid (M (fun _ => False) w _ [blk w.heap.size (.cells (oc 5 N Y V r (.slice a n c)).toArray 27)]) := (M.start _ w).alloc _ rfl
  have E0 : Hid _ := OAt.new (K := 5) (N := N) (Y := Y) (V := V) (rv := .slice a n c) w hr
  generalize hX : (oc 5 N Y V r (.slice a n c)).toArray = X at E0 HM ⊢
  have HX : Hid ((oc 5 N Y V r (.slice a n c)).toArray = X) := hX
  obtain ⟨g0, g1, g2, g3, g36⟩ := E0.out.cells
  have HO : Hid (ob 5 N Y V r l = be 1 5 ++ ([sh Y, sh V, rf l]).flatten) := (by simp [ob, body, show iR 5 = false from rfl, show iK 5 = true from rfl, show iV 5 = true from rfl, show iN 5 = false from rfl, show iS 5 = true from rfl] : ob 5 N Y V r l = be 1 5 ++ ([sh Y, sh V, rf l]).flatten)
  obtain ⟨BK, hBK⟩ : ∃ B : ByteArray, (⟨(be 1 5).toArray⟩ : ByteArray) = B := ⟨_, rfl⟩
  have zBK : BK.size = 1 := sz_of _ 1 (be_len 1 _) BK hBK
  have HBK : Hid _ := hBK
  clear hBK
  obtain ⟨BY, hBY⟩ : ∃ B : ByteArray, (⟨(sh Y).toArray⟩ : ByteArray) = B := ⟨_, rfl⟩
  have HBY : Hid ((⟨(sh Y).toArray⟩ : ByteArray) = BY) := hBY
  have zBY : BY.size ≤ 17 := by rw [sz_of _ _ (sh_len _) BY hBY]; omega
  clear hBY
  obtain ⟨BV, hBV⟩ : ∃ B : ByteArray, (⟨(sh V).toArray⟩ : ByteArray) = B := ⟨_, rfl⟩
  have HBV : Hid ((⟨(sh V).toArray⟩ : ByteArray) = BV) := hBV
  have zBV : BV.size ≤ 17 := by rw [sz_of _ _ (sh_len _) BV hBV]; omega
  clear hBV
  obtain ⟨BL, hBL⟩ : ∃ B : ByteArray, (⟨(rf l).toArray⟩ : ByteArray) = B := ⟨_, rfl⟩
  have HBL : Hid ((⟨(rf l).toArray⟩ : ByteArray) = BL) := hBL
  have zBL : BL.size ≤ 257 := by rw [sz_of _ _ rfl BL hBL, rf, List.length_append, be_len, flat_len l h.size, h.len]; omega
  clear hBL
  clear hX hr h hv hnb
  go_enter Tryd.func16, Tryd.ntmps16
  go_wp2_with (first | (go_at_call 18; refine (rcheck_any _ 5 N Y V r a n c l Hr.out (A1.out.calm HM.out.keep) 0 Hv.out).mono ?_; rintro e w1 ⟨rfl, k1⟩; have HM : Hid _ := HM.out.calm k1; clear k1; have E0 : Hid (OAt _ w.heap.size 5 N Y V r (.slice a n c)) := ⟨by rw [HX.out]; exact HM.out.get 0 rfl, Hr.out⟩; obtain ⟨g0, g1, g2, g3, g36⟩ := E0.out.cells) | (refine St.wl_load tyO (by rfl) rfl rfl E0.out.all (oc_len _ _ _ _ _ _ Hr.out) ?_; simp only [Act.put, List.setIfInBounds_toArray, List.set_cons_zero, List.set_cons_succ]) | (go_at_call_has 52 (Value.int .i64 5); refine (Ref.num1 _ 5 (by omega) (by omega)).mono ?_; rw [HBK.out]; rintro e w2 ⟨rfl, k1⟩; have HM : Hid _ := HM.out.calm k1; clear k1; have E0 : Hid (OAt _ w.heap.size 5 N Y V r (.slice a n c)) := ⟨by rw [HX.out]; exact HM.out.get 0 rfl, Hr.out⟩; obtain ⟨g0, g1, g2, g3, g36⟩ := E0.out.cells) | (go_at_call 43; refine (has_any _ 5 (by decide)).mono ?_; rintro e w3 ⟨rfl, rfl⟩))
  go_loopw [5, 8, 9, 10, 11] (fun o i _ _ _ wr => ∃ (k : Nat) (S : ByteArray), k ≤ 3 ∧ i = .int .i64 k ∧ o = .string S ∧ S.data.toList = be 1 5 ++ (([sh Y, sh V, rf l]).take k).flatten ∧ S.size ≤ 1 + 300 * k ∧ M (fun _ => False) w wr [blk w.heap.size (.cells X 27)]) (fun _ i _ _ _ _ => 3 - (intOf i).toNat)
  case atStart => exact ⟨0, BK, Nat.zero_le _, rfl, rfl, by rw [ls_of _ BK HBK.out]; simp, by omega, HM.out⟩
  case round =>
    obtain ⟨k, S, hk, rfl, rfl, hS, hSz, hM⟩ := hrel
    have HM : Hid _ := hM
    have HS : Hid _ := hS
    clear hM hS
    have E0 : Hid (OAt _ w.heap.size 5 N Y V r (.slice a n c)) := ⟨by rw [HX.out]; exact HM.out.get 0 rfl, Hr.out⟩; obtain ⟨g0, g1, g2, g3, g36⟩ := E0.out.cells
    rcases (by omega : k = 0 ∨ k = 1 ∨ k = 2 ∨ k = 3) with rfl | rfl | rfl | rfl
    · go_wp2_with (first | (go_at_call_has 53 (Value.string Y); refine (rshort_any _ Y (by omega) BY HBY.out).mono ?_; rintro e w5 ⟨rfl, k1⟩; have HM : Hid _ := HM.out.calm k1; clear k1; have E0 : Hid (OAt _ w.heap.size 5 N Y V r (.slice a n c)) := ⟨by rw [HX.out]; exact HM.out.get 0 rfl, Hr.out⟩; obtain ⟨g0, g1, g2, g3, g36⟩ := E0.out.cells) | (go_at_call_has 53 (Value.string V); refine (rshort_any _ V (by omega) BV HBV.out).mono ?_; rintro e w5 ⟨rfl, k1⟩; have HM : Hid _ := HM.out.calm k1; clear k1; have E0 : Hid (OAt _ w.heap.size 5 N Y V r (.slice a n c)) := ⟨by rw [HX.out]; exact HM.out.get 0 rfl, Hr.out⟩; obtain ⟨g0, g1, g2, g3, g36⟩ := E0.out.cells) | (go_at_call 55; refine (rids_v _ a n c l (A1.out.calm HM.out.keep) (by omega) BL HBL.out).mono ?_; rintro e w5 ⟨rfl, k1⟩; have HM : Hid _ := HM.out.calm k1; clear k1; have E0 : Hid (OAt _ w.heap.size 5 N Y V r (.slice a n c)) := ⟨by rw [HX.out]; exact HM.out.get 0 rfl, Hr.out⟩; obtain ⟨g0, g1, g2, g3, g36⟩ := E0.out.cells))
      go_roundw
      case rel => exact ⟨1, _, by omega, rfl, rfl, cat_part HS.out rfl HBY.out, by rw [ByteArray.size_append]; omega, HM.out⟩
      case measure => simp [intOf]
    · go_wp2_with (first | (go_at_call_has 53 (Value.string Y); refine (rshort_any _ Y (by omega) BY HBY.out).mono ?_; rintro e w5 ⟨rfl, k1⟩; have HM : Hid _ := HM.out.calm k1; clear k1; have E0 : Hid (OAt _ w.heap.size 5 N Y V r (.slice a n c)) := ⟨by rw [HX.out]; exact HM.out.get 0 rfl, Hr.out⟩; obtain ⟨g0, g1, g2, g3, g36⟩ := E0.out.cells) | (go_at_call_has 53 (Value.string V); refine (rshort_any _ V (by omega) BV HBV.out).mono ?_; rintro e w5 ⟨rfl, k1⟩; have HM : Hid _ := HM.out.calm k1; clear k1; have E0 : Hid (OAt _ w.heap.size 5 N Y V r (.slice a n c)) := ⟨by rw [HX.out]; exact HM.out.get 0 rfl, Hr.out⟩; obtain ⟨g0, g1, g2, g3, g36⟩ := E0.out.cells) | (go_at_call 55; refine (rids_v _ a n c l (A1.out.calm HM.out.keep) (by omega) BL HBL.out).mono ?_; rintro e w5 ⟨rfl, k1⟩; have HM : Hid _ := HM.out.calm k1; clear k1; have E0 : Hid (OAt _ w.heap.size 5 N Y V r (.slice a n c)) := ⟨by rw [HX.out]; exact HM.out.get 0 rfl, Hr.out⟩; obtain ⟨g0, g1, g2, g3, g36⟩ := E0.out.cells))
      go_roundw
      case rel => exact ⟨2, _, by omega, rfl, rfl, cat_part HS.out rfl HBV.out, by rw [ByteArray.size_append]; omega, HM.out⟩
      case measure => simp [intOf]
    · go_wp2_with (first | (go_at_call_has 53 (Value.string Y); refine (rshort_any _ Y (by omega) BY HBY.out).mono ?_; rintro e w5 ⟨rfl, k1⟩; have HM : Hid _ := HM.out.calm k1; clear k1; have E0 : Hid (OAt _ w.heap.size 5 N Y V r (.slice a n c)) := ⟨by rw [HX.out]; exact HM.out.get 0 rfl, Hr.out⟩; obtain ⟨g0, g1, g2, g3, g36⟩ := E0.out.cells) | (go_at_call_has 53 (Value.string V); refine (rshort_any _ V (by omega) BV HBV.out).mono ?_; rintro e w5 ⟨rfl, k1⟩; have HM : Hid _ := HM.out.calm k1; clear k1; have E0 : Hid (OAt _ w.heap.size 5 N Y V r (.slice a n c)) := ⟨by rw [HX.out]; exact HM.out.get 0 rfl, Hr.out⟩; obtain ⟨g0, g1, g2, g3, g36⟩ := E0.out.cells) | (go_at_call 55; refine (rids_v _ a n c l (A1.out.calm HM.out.keep) (by omega) BL HBL.out).mono ?_; rintro e w5 ⟨rfl, k1⟩; have HM : Hid _ := HM.out.calm k1; clear k1; have E0 : Hid (OAt _ w.heap.size 5 N Y V r (.slice a n c)) := ⟨by rw [HX.out]; exact HM.out.get 0 rfl, Hr.out⟩; obtain ⟨g0, g1, g2, g3, g36⟩ := E0.out.cells))
      go_roundw
      case rel => exact ⟨3, _, by omega, rfl, rfl, cat_part HS.out rfl HBL.out, by rw [ByteArray.size_append]; omega, HM.out⟩
      case measure => simp [intOf]
    · go_wp2
      go_ret2
      have e : S = ⟨(ob 5 N Y V r l).toArray⟩ := ob_of (by rw [HO.out]; exact HS.out)
      rw [← e]
      exact ⟨rfl, HM.out.keep⟩
set_option maxRecDepth 100000 in
set_option maxHeartbeats 4000000 in
theorem rput_6 (w : World) (N : Int) (Y V : ByteArray) (r : List UInt8) (a : Option Addr) (n c : Nat) (l : List (List UInt8)) (hr : r.length = 32) (h : At w a n l) (hv : ck 6 N Y V r n l = 0) :
    Calls Tryd.prog 16 #[.agg (oc 6 N Y V r (.slice a n c)).toArray] w fun e w' => e = .returned (.tuple #[.string ⟨(ob 6 N Y V r l).toArray⟩, .int .i64 0]) ∧ Keep (fun _ => False) w w' := by
  obtain ⟨_, _, hY16, hV16, hnb, hn8, _⟩ := ck_ok hv
  obtain ⟨n1, n2, n3⟩ := nb_rng hnb
  have A1 : Hid (At w a n l) := h
  have Hv : Hid (ck 6 N Y V r n l = 0) := hv
  have Hr : Hid (r.length = 32) := hr
  have HM : Hid (M (fun _ => False) w _ [blk w.heap.size (.cells (oc 6 N Y V r (.slice a n c)).toArray 27)]) := (M.start _ w).alloc _ rfl
  have E0 : Hid _ := OAt.new (K := 6) (N := N) (Y := Y) (V := V) (rv := .slice a n c) w hr
  generalize hX : (oc 6 N Y V r (.slice a n c)).toArray = X at E0 HM ⊢
  have HX : Hid ((oc 6 N Y V r (.slice a n c)).toArray = X) := hX
  obtain ⟨g0, g1, g2, g3, g36⟩ := E0.out.cells
  have HO : Hid (ob 6 N Y V r l = be 1 6 ++ ([r, sh V]).flatten) := (by simp [ob, body, show iR 6 = true from rfl, show iK 6 = false from rfl, show iV 6 = true from rfl, show iN 6 = false from rfl, show iS 6 = false from rfl] : ob 6 N Y V r l = be 1 6 ++ ([r, sh V]).flatten)
  obtain ⟨BK, hBK⟩ : ∃ B : ByteArray, (⟨(be 1 6).toArray⟩ : ByteArray) = B := ⟨_, rfl⟩
  have zBK : BK.size = 1 := sz_of _ 1 (be_len 1 _) BK hBK
  have HBK : Hid _ := hBK
  clear hBK
  obtain ⟨BR, hBR⟩ : ∃ B : ByteArray, (⟨(r).toArray⟩ : ByteArray) = B := ⟨_, rfl⟩
  have HBR : Hid ((⟨(r).toArray⟩ : ByteArray) = BR) := hBR
  have zBR : BR.size = 32 := sz_of _ 32 hr BR hBR
  clear hBR
  obtain ⟨BV, hBV⟩ : ∃ B : ByteArray, (⟨(sh V).toArray⟩ : ByteArray) = B := ⟨_, rfl⟩
  have HBV : Hid ((⟨(sh V).toArray⟩ : ByteArray) = BV) := hBV
  have zBV : BV.size ≤ 17 := by rw [sz_of _ _ (sh_len _) BV hBV]; omega
  clear hBV
  clear hX hr h hv hnb
  go_enter Tryd.func16, Tryd.ntmps16
  go_wp2_with (first | (go_at_call 18; refine (rcheck_any _ 6 N Y V r a n c l Hr.out (A1.out.calm HM.out.keep) 0 Hv.out).mono ?_; rintro e w1 ⟨rfl, k1⟩; have HM : Hid _ := HM.out.calm k1; clear k1; have E0 : Hid (OAt _ w.heap.size 6 N Y V r (.slice a n c)) := ⟨by rw [HX.out]; exact HM.out.get 0 rfl, Hr.out⟩; obtain ⟨g0, g1, g2, g3, g36⟩ := E0.out.cells) | (refine St.wl_load tyO (by rfl) rfl rfl E0.out.all (oc_len _ _ _ _ _ _ Hr.out) ?_; simp only [Act.put, List.setIfInBounds_toArray, List.set_cons_zero, List.set_cons_succ]) | (go_at_call_has 52 (Value.int .i64 6); refine (Ref.num1 _ 6 (by omega) (by omega)).mono ?_; rw [HBK.out]; rintro e w2 ⟨rfl, k1⟩; have HM : Hid _ := HM.out.calm k1; clear k1; have E0 : Hid (OAt _ w.heap.size 6 N Y V r (.slice a n c)) := ⟨by rw [HX.out]; exact HM.out.get 0 rfl, Hr.out⟩; obtain ⟨g0, g1, g2, g3, g36⟩ := E0.out.cells) | (go_at_call 43; refine (has_any _ 6 (by decide)).mono ?_; rintro e w3 ⟨rfl, rfl⟩))
  go_loopw [5, 8, 9, 10, 11] (fun o i _ _ _ wr => ∃ (k : Nat) (S : ByteArray), k ≤ 2 ∧ i = .int .i64 k ∧ o = .string S ∧ S.data.toList = be 1 6 ++ (([r, sh V]).take k).flatten ∧ S.size ≤ 1 + 300 * k ∧ M (fun _ => False) w wr [blk w.heap.size (.cells X 27)]) (fun _ i _ _ _ _ => 2 - (intOf i).toNat)
  case atStart => exact ⟨0, BK, Nat.zero_le _, rfl, rfl, by rw [ls_of _ BK HBK.out]; simp, by omega, HM.out⟩
  case round =>
    obtain ⟨k, S, hk, rfl, rfl, hS, hSz, hM⟩ := hrel
    have HM : Hid _ := hM
    have HS : Hid _ := hS
    clear hM hS
    have E0 : Hid (OAt _ w.heap.size 6 N Y V r (.slice a n c)) := ⟨by rw [HX.out]; exact HM.out.get 0 rfl, Hr.out⟩; obtain ⟨g0, g1, g2, g3, g36⟩ := E0.out.cells
    rcases (by omega : k = 0 ∨ k = 1 ∨ k = 2) with rfl | rfl | rfl
    · go_wp2_with (first | (refine wl_loadG (by rfl) rfl rfl Hr.out E0.out.ref ?_; simp only [Act.put, List.setIfInBounds_toArray, List.set_cons_zero, List.set_cons_succ]) | (go_at_call 54; refine (rraw_any _ r Hr.out BR HBR.out).mono ?_; rintro e w5 ⟨rfl, k1⟩; have HM : Hid _ := HM.out.calm k1; clear k1; have E0 : Hid (OAt _ w.heap.size 6 N Y V r (.slice a n c)) := ⟨by rw [HX.out]; exact HM.out.get 0 rfl, Hr.out⟩; obtain ⟨g0, g1, g2, g3, g36⟩ := E0.out.cells) | (go_at_call_has 53 (Value.string V); refine (rshort_any _ V (by omega) BV HBV.out).mono ?_; rintro e w5 ⟨rfl, k1⟩; have HM : Hid _ := HM.out.calm k1; clear k1; have E0 : Hid (OAt _ w.heap.size 6 N Y V r (.slice a n c)) := ⟨by rw [HX.out]; exact HM.out.get 0 rfl, Hr.out⟩; obtain ⟨g0, g1, g2, g3, g36⟩ := E0.out.cells))
      go_roundw
      case rel => exact ⟨1, _, by omega, rfl, rfl, cat_part HS.out rfl HBR.out, by rw [ByteArray.size_append]; omega, HM.out⟩
      case measure => simp [intOf]
    · go_wp2_with (first | (refine wl_loadG (by rfl) rfl rfl Hr.out E0.out.ref ?_; simp only [Act.put, List.setIfInBounds_toArray, List.set_cons_zero, List.set_cons_succ]) | (go_at_call 54; refine (rraw_any _ r Hr.out BR HBR.out).mono ?_; rintro e w5 ⟨rfl, k1⟩; have HM : Hid _ := HM.out.calm k1; clear k1; have E0 : Hid (OAt _ w.heap.size 6 N Y V r (.slice a n c)) := ⟨by rw [HX.out]; exact HM.out.get 0 rfl, Hr.out⟩; obtain ⟨g0, g1, g2, g3, g36⟩ := E0.out.cells) | (go_at_call_has 53 (Value.string V); refine (rshort_any _ V (by omega) BV HBV.out).mono ?_; rintro e w5 ⟨rfl, k1⟩; have HM : Hid _ := HM.out.calm k1; clear k1; have E0 : Hid (OAt _ w.heap.size 6 N Y V r (.slice a n c)) := ⟨by rw [HX.out]; exact HM.out.get 0 rfl, Hr.out⟩; obtain ⟨g0, g1, g2, g3, g36⟩ := E0.out.cells))
      go_roundw
      case rel => exact ⟨2, _, by omega, rfl, rfl, cat_part HS.out rfl HBV.out, by rw [ByteArray.size_append]; omega, HM.out⟩
      case measure => simp [intOf]
    · go_wp2
      go_ret2
      have e : S = ⟨(ob 6 N Y V r l).toArray⟩ := ob_of (by rw [HO.out]; exact HS.out)
      rw [← e]
      exact ⟨rfl, HM.out.keep⟩
set_option maxRecDepth 100000 in
set_option maxHeartbeats 4000000 in
theorem rput_7 (w : World) (N : Int) (Y V : ByteArray) (r : List UInt8) (a : Option Addr) (n c : Nat) (l : List (List UInt8)) (hr : r.length = 32) (h : At w a n l) (hv : ck 7 N Y V r n l = 0) :
    Calls Tryd.prog 16 #[.agg (oc 7 N Y V r (.slice a n c)).toArray] w fun e w' => e = .returned (.tuple #[.string ⟨(ob 7 N Y V r l).toArray⟩, .int .i64 0]) ∧ Keep (fun _ => False) w w' := by
  obtain ⟨_, _, hY16, hV16, hnb, hn8, _⟩ := ck_ok hv
  obtain ⟨n1, n2, n3⟩ := nb_rng hnb
  have A1 : Hid (At w a n l) := h
  have Hv : Hid (ck 7 N Y V r n l = 0) := hv
  have Hr : Hid (r.length = 32) := hr
  have HM : Hid (M (fun _ => False) w _ [blk w.heap.size (.cells (oc 7 N Y V r (.slice a n c)).toArray 27)]) := (M.start _ w).alloc _ rfl
  have E0 : Hid _ := OAt.new (K := 7) (N := N) (Y := Y) (V := V) (rv := .slice a n c) w hr
  generalize hX : (oc 7 N Y V r (.slice a n c)).toArray = X at E0 HM ⊢
  have HX : Hid ((oc 7 N Y V r (.slice a n c)).toArray = X) := hX
  obtain ⟨g0, g1, g2, g3, g36⟩ := E0.out.cells
  have HO : Hid (ob 7 N Y V r l = be 1 7 ++ ([r]).flatten) := (by simp [ob, body, show iR 7 = true from rfl, show iK 7 = false from rfl, show iV 7 = false from rfl, show iN 7 = false from rfl, show iS 7 = false from rfl] : ob 7 N Y V r l = be 1 7 ++ ([r]).flatten)
  obtain ⟨BK, hBK⟩ : ∃ B : ByteArray, (⟨(be 1 7).toArray⟩ : ByteArray) = B := ⟨_, rfl⟩
  have zBK : BK.size = 1 := sz_of _ 1 (be_len 1 _) BK hBK
  have HBK : Hid _ := hBK
  clear hBK
  obtain ⟨BR, hBR⟩ : ∃ B : ByteArray, (⟨(r).toArray⟩ : ByteArray) = B := ⟨_, rfl⟩
  have HBR : Hid ((⟨(r).toArray⟩ : ByteArray) = BR) := hBR
  have zBR : BR.size = 32 := sz_of _ 32 hr BR hBR
  clear hBR
  clear hX hr h hv hnb
  go_enter Tryd.func16, Tryd.ntmps16
  go_wp2_with (first | (go_at_call 18; refine (rcheck_any _ 7 N Y V r a n c l Hr.out (A1.out.calm HM.out.keep) 0 Hv.out).mono ?_; rintro e w1 ⟨rfl, k1⟩; have HM : Hid _ := HM.out.calm k1; clear k1; have E0 : Hid (OAt _ w.heap.size 7 N Y V r (.slice a n c)) := ⟨by rw [HX.out]; exact HM.out.get 0 rfl, Hr.out⟩; obtain ⟨g0, g1, g2, g3, g36⟩ := E0.out.cells) | (refine St.wl_load tyO (by rfl) rfl rfl E0.out.all (oc_len _ _ _ _ _ _ Hr.out) ?_; simp only [Act.put, List.setIfInBounds_toArray, List.set_cons_zero, List.set_cons_succ]) | (go_at_call_has 52 (Value.int .i64 7); refine (Ref.num1 _ 7 (by omega) (by omega)).mono ?_; rw [HBK.out]; rintro e w2 ⟨rfl, k1⟩; have HM : Hid _ := HM.out.calm k1; clear k1; have E0 : Hid (OAt _ w.heap.size 7 N Y V r (.slice a n c)) := ⟨by rw [HX.out]; exact HM.out.get 0 rfl, Hr.out⟩; obtain ⟨g0, g1, g2, g3, g36⟩ := E0.out.cells) | (go_at_call 43; refine (has_any _ 7 (by decide)).mono ?_; rintro e w3 ⟨rfl, rfl⟩))
  go_loopw [5, 8, 9, 10, 11] (fun o i _ _ _ wr => ∃ (k : Nat) (S : ByteArray), k ≤ 1 ∧ i = .int .i64 k ∧ o = .string S ∧ S.data.toList = be 1 7 ++ (([r]).take k).flatten ∧ S.size ≤ 1 + 300 * k ∧ M (fun _ => False) w wr [blk w.heap.size (.cells X 27)]) (fun _ i _ _ _ _ => 1 - (intOf i).toNat)
  case atStart => exact ⟨0, BK, Nat.zero_le _, rfl, rfl, by rw [ls_of _ BK HBK.out]; simp, by omega, HM.out⟩
  case round =>
    obtain ⟨k, S, hk, rfl, rfl, hS, hSz, hM⟩ := hrel
    have HM : Hid _ := hM
    have HS : Hid _ := hS
    clear hM hS
    have E0 : Hid (OAt _ w.heap.size 7 N Y V r (.slice a n c)) := ⟨by rw [HX.out]; exact HM.out.get 0 rfl, Hr.out⟩; obtain ⟨g0, g1, g2, g3, g36⟩ := E0.out.cells
    rcases (by omega : k = 0 ∨ k = 1) with rfl | rfl
    · go_wp2_with (first | (refine wl_loadG (by rfl) rfl rfl Hr.out E0.out.ref ?_; simp only [Act.put, List.setIfInBounds_toArray, List.set_cons_zero, List.set_cons_succ]) | (go_at_call 54; refine (rraw_any _ r Hr.out BR HBR.out).mono ?_; rintro e w5 ⟨rfl, k1⟩; have HM : Hid _ := HM.out.calm k1; clear k1; have E0 : Hid (OAt _ w.heap.size 7 N Y V r (.slice a n c)) := ⟨by rw [HX.out]; exact HM.out.get 0 rfl, Hr.out⟩; obtain ⟨g0, g1, g2, g3, g36⟩ := E0.out.cells))
      go_roundw
      case rel => exact ⟨1, _, by omega, rfl, rfl, cat_part HS.out rfl HBR.out, by rw [ByteArray.size_append]; omega, HM.out⟩
      case measure => simp [intOf]
    · go_wp2
      go_ret2
      have e : S = ⟨(ob 7 N Y V r l).toArray⟩ := ob_of (by rw [HO.out]; exact HS.out)
      rw [← e]
      exact ⟨rfl, HM.out.keep⟩
set_option maxRecDepth 100000 in
theorem rput_any (w : World) (K N : Int) (Y V : ByteArray) (r : List UInt8) (a : Option Addr) (n c : Nat) (l : List (List UInt8)) (hr : r.length = 32) (h : At w a n l) :
    Calls Tryd.prog 16 #[.agg (oc K N Y V r (.slice a n c)).toArray] w fun e w' => e = .returned (.tuple #[.string (pv K N Y V r n l), .int .i64 (ck K N Y V r n l)]) ∧ Keep (fun _ => False) w w' := by
  by_cases hc : ck K N Y V r n l = 0
  · rw [show pv K N Y V r n l = ⟨(ob K N Y V r l).toArray⟩ from if_pos hc, hc]
    have hK := (ck_ok hc).1
    rcases (by omega : K = 1 ∨ K = 2 ∨ K = 3 ∨ K = 4 ∨ K = 5 ∨ K = 6 ∨ K = 7) with rfl | rfl | rfl | rfl | rfl | rfl | rfl
    · exact rput_1 w N Y V r a n c l hr h hc
    · exact rput_2 w N Y V r a n c l hr h hc
    · exact rput_3 w N Y V r a n c l hr h hc
    · exact rput_4 w N Y V r a n c l hr h hc
    · exact rput_5 w N Y V r a n c l hr h hc
    · exact rput_6 w N Y V r a n c l hr h hc
    · exact rput_7 w N Y V r a n c l hr h hc
  · rw [show pv K N Y V r n l = ByteArray.empty from if_neg hc]
    obtain ⟨v, hv⟩ : ∃ v, ck K N Y V r n l = v := ⟨_, rfl⟩
    rw [hv] at hc ⊢
    have h' : (v != 0) = true := by simpa using hc
    have A1 : Hid (At w a n l) := h
    have Hv : Hid _ := hv
    have Hr : Hid (r.length = 32) := hr
    have E0 : Hid _ := OAt.new (K := K) (N := N) (Y := Y) (V := V) (rv := .slice a n c) w hr
    have HK : Hid (Keep (fun _ => False) w (w.alloc (.cells (oc K N Y V r (.slice a n c)).toArray 27))) := (Keep.refl _ _).alloc _
    generalize hX : (oc K N Y V r (.slice a n c)).toArray = X at E0 HK ⊢
    clear h hv hX hr hc
    go_enter Tryd.func16, Tryd.ntmps16
    go_wp2_with (first | (go_at_call 18; refine (rcheck_any _ K N Y V r a n c l Hr.out (A1.out.calm HK.out) v Hv.out).mono ?_; rintro e w1 ⟨rfl, k1⟩; have HK : Hid _ := HK.out.trans k1; clear k1) | (refine St.wl_load tyO (by rfl) rfl rfl E0.out.all (oc_len _ _ _ _ _ _ Hr.out) ?_; simp only [Act.put, List.setIfInBounds_toArray, List.set_cons_zero, List.set_cons_succ]))
    go_ret2
    exact ⟨rfl, HK.out⟩
end Ox
end Go.Proofs.YtfoplimdbapdfaaDoor
