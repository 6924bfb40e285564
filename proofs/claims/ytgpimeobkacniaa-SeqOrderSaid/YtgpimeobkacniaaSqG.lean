/-
  petrelref25: num, raw, Put.
-/
import Derived.Test.YtgpimeobkacniaaSqF
import Derived.Test.YtgpimeobkacniaaGId
set_option linter.unusedVariables false
set_option linter.unusedSimpArgs false
namespace Go.Proofs.Ytgpimeobkacniaa
open Go.RowKit
namespace Sq
open Oct Ids Mp
open Mem (M It blk ids rows)
open OctRd (be_len)
set_option maxRecDepth 100000 in
theorem rn1 (w : World) (n : Int) (hn0 : 0 ≤ n) (hn : n < 256) (v : ByteArray) (hv : (⟨(be 1 n).toArray⟩ : ByteArray) = v) : Calls Try.prog 77 #[.int .i64 n, .int .i64 1] w fun e w' => e = .returned (.string v) ∧ Keep (fun _ => False) w w' := by
  have HV : Hid _ := hv
  clear hv
  go_enter Try.func77, Try.ntmps77
  go_wp2_with (first | (go_at_call 106; refine (Ref.num1 _ n hn0 hn).mono ?_; rw [HV.out]; rintro e w1 ⟨rfl, k1⟩; have HK : Hid _ := k1; clear k1))
  go_ret
  exact ⟨rfl, HK.out⟩
set_option maxRecDepth 100000 in
theorem rn2 (w : World) (n : Int) (hn0 : 0 ≤ n) (hn : n < 65536) (v : ByteArray) (hv : (⟨(be 2 n).toArray⟩ : ByteArray) = v) : Calls Try.prog 77 #[.int .i64 n, .int .i64 2] w fun e w' => e = .returned (.string v) ∧ Keep (fun _ => False) w w' := by
  have HV : Hid _ := hv
  clear hv
  go_enter Try.func77, Try.ntmps77
  go_wp2_with (first | (go_at_call 106; refine (Ref.num2 _ n hn0 hn).mono ?_; rw [HV.out]; rintro e w1 ⟨rfl, k1⟩; have HK : Hid _ := k1; clear k1))
  go_ret
  exact ⟨rfl, HK.out⟩
set_option maxRecDepth 100000 in
theorem rn4 (w : World) (n : Int) (hn0 : 0 ≤ n) (hn : n < 4294967296) (v : ByteArray) (hv : (⟨(be 4 n).toArray⟩ : ByteArray) = v) : Calls Try.prog 77 #[.int .i64 n, .int .i64 4] w fun e w' => e = .returned (.string v) ∧ Keep (fun _ => False) w w' := by
  have HV : Hid _ := hv
  clear hv
  go_enter Try.func77, Try.ntmps77
  go_wp2_with (first | (go_at_call 106; refine (Ref.num4 _ n hn0 hn).mono ?_; rw [HV.out]; rintro e w1 ⟨rfl, k1⟩; have HK : Hid _ := k1; clear k1))
  go_ret
  exact ⟨rfl, HK.out⟩
theorem at_oneI {w : World} {g : Nat} {c : Wd} {t : TypeId} {fr : Nat × Nat} (hc : c.length = 32) (h : w.heap[g]? = some (.cells (c.map bv).toArray t fr)) : At w (some ⟨g, 0, none⟩) 1 [c] := by
  refine ⟨rfl, fun x hx => by rw [List.mem_singleton.1 hx]; exact hc, by unfold maxLen; omega, .inr ⟨g, 0, rfl, (Array.getElem?_eq_some_iff.1 h).1, fun i x hi => ?_⟩⟩
  cases i with
  | zero =>
    obtain rfl : c = x := Option.some.inj hi
    intro j v hj
    rw [cell_of h, List.getElem?_toArray]
    simpa using hj
  | succ i => cases hi
theorem raw_cut (c : Wd) (T : ByteArray) (h : (⟨(be 1 ((1 : Nat) : Int) ++ [c].flatten).toArray⟩ : ByteArray) = T) : T.extract 1 T.size = ⟨c.toArray⟩ := by
  subst h
  apply ByteArray.ext
  simp [be]
  show List.take ((1 :: c).toArray.size - 1) c = c
  simp
set_option maxRecDepth 100000 in
set_option maxHeartbeats 1000000 in
theorem qraw_any (w : World) (c : List UInt8) (hc : c.length = 32) (v : ByteArray) (hv : (⟨c.toArray⟩ : ByteArray) = v) : Calls Try.prog 78 #[idv c] w fun e w' => e = .returned (.string v) ∧ Keep (fun _ => False) w w' := by
  subst hv
  have HU : Hid (c.length = 32) := hc
  have HM : Hid (M (fun _ => False) w _ [blk w.heap.size (.cells (c.map bv).toArray 35)]) := (M.start (fun _ => False) w).alloc (.cells (c.map bv).toArray 35) rfl
  obtain ⟨T, hT⟩ : ∃ T : ByteArray, (⟨(be 1 ((1 : Nat) : Int) ++ [c].flatten).toArray⟩ : ByteArray) = T := ⟨_, rfl⟩
  have HT : Hid ((⟨(be 1 ((1 : Nat) : Int) ++ [c].flatten).toArray⟩ : ByteArray) = T) := hT
  have hTs : T.size = 33 := by rw [← hT, Byt.arr_size]; simp [be_len, hc]
  have HX : Hid _ := raw_cut c T hT
  clear hc hT
  go_enter Try.func78, Try.ntmps78
  go_wp2_with (first | ((with_reducible refine at_load 35 ?_); refine Ids.wl_load rfl rfl rfl HU.out (HM.out.range 0 rfl) ?_; simp only [Act.put, List.setIfInBounds_toArray, List.set_cons_zero, List.set_cons_succ]) | (refine Ids.wl_build rfl rfl HU.out rfl ?_; have HM : Hid _ := HM.out.alloc (.cells (c.map bv).toArray 35) (b := w.heap.size + 1) (by simp); simp only [Act.put, List.setIfInBounds_toArray, List.set_cons_zero, List.set_cons_succ]) | (go_at_call 107; refine (ids_any _ _ 1 1 [c] (at_oneI HU.out (HM.out.get 1 rfl)) (by omega)).mono ?_; rintro e w1 ⟨rfl, k1⟩; rw [HT.out]; have HM : Hid _ := HM.out.calm k1; clear k1))
  go_ret
  exact ⟨by first | rw [← HX.out]; rfl | (rw [← HX.out, hTs]; rfl), HM.out.keep⟩
def deA (b : Nat) (d : Dn) (w : World) : Prop := w.rangeAt b 0 (d.u.map bv) ∧ w.cell? ⟨b, 32, none⟩ = some (.int .i64 d.x.h) ∧ w.rangeAt b 33 (d.x.r.map bv) ∧ w.cell? ⟨b, 65, none⟩ = some (.string d.x.v)
theorem deA_of {b : Nat} {d : Dn} {w : World} (h : w.rangeAt b 0 (de d)) : deA b d w := by
  have h1 := rng_h h
  have h2 := rng_r h
  have h3 := rng_v h
  rw [Nat.zero_add] at h1 h2 h3
  exact ⟨rng_u h, h1, h2, h3⟩
theorem bszQ (l : List UInt8) (k : Nat) (h : l.length = k) (B : ByteArray) (hB : (⟨l.toArray⟩ : ByteArray) = B) : B.size = k := by rw [← hB, Byt.arr_size, h]
theorem blsQ (l : List UInt8) (B : ByteArray) (hB : (⟨l.toArray⟩ : ByteArray) = B) : B.data.toList = l := by rw [← hB]
theorem obQ {S : ByteArray} {x : List UInt8} (h : S.data.toList = x) : S = ⟨x.toArray⟩ := by rw [← h]
theorem szQ {S : ByteArray} {x : List UInt8} (h : S.data.toList = x) : S.size = x.length := by rw [← h]; rfl
set_option maxRecDepth 100000 in
set_option maxHeartbeats 16000000 in
theorem qput_any (w : World) (b : Nat) (lv gv : Value) (X : List Dn) (G : List Wd) (h : XsAt w b lv gv X G) (hX : X.length ≤ 1000) (hG : G.length ≤ 1000) (hv : ∀ d ∈ X, d.x.v.size ≤ 16 ∧ 1 ≤ d.x.h ∧ d.x.h ≤ 1073741824) :
    Calls Try.prog 44 #[.pointer (some ⟨b, 0, none⟩)] w fun e w' => e = .returned (.string ⟨(putB X G).toArray⟩) ∧ Keep (fun _ => False) w w' := by
  obtain ⟨la, lc, e0, hrow⟩ := h.row
  subst e0
  obtain ⟨ga, gc, e1, hgat, _⟩ := h.gone.at
  subst e1
  obtain ⟨n, hn⟩ : ∃ n, X.length = n := ⟨_, rfl⟩
  obtain ⟨g, hg⟩ : ∃ g, G.length = g := ⟨_, rfl⟩
  rw [hn] at h hrow hX
  rw [hg] at h hgat hG
  have Hn : Hid (X.length = n) := hn
  have Hg : Hid (G.length = g) := hg
  have HXs : Hid (XsAt w b (.slice la n lc) (.slice ga g gc) X G) := h
  have HRow : Hid (St.At 66 de w la n X) := hrow
  have HGat : Hid (At w ga g G) := hgat
  have HOk : Hid (∀ d ∈ X, d.x.v.size ≤ 16 ∧ 1 ≤ d.x.h ∧ d.x.h ≤ 1073741824) := hv
  have c0 := h.cells.1
  have HK : Hid (Keep (fun _ => False) w w) := Keep.refl _ _
  obtain ⟨B0, hB0⟩ : ∃ B : ByteArray, (⟨(be 4 n).toArray⟩ : ByteArray) = B := ⟨_, rfl⟩
  have HB0 : Hid ((⟨(be 4 n).toArray⟩ : ByteArray) = B0) := hB0
  clear h hrow hgat hn hg hv hB0
  go_enter Try.func44, Try.ntmps44
  go_wp2_with (first | (go_at_call 77; refine (rn4 _ n (by omega) (by omega) B0 HB0.out).mono ?_; rintro e w1 ⟨rfl, k1⟩; have HK : Hid _ := HK.out.trans k1; clear k1))
  go_loopw [3, 4] (fun s3 s4 wr => ∃ (k : Nat) (S : ByteArray), k ≤ n ∧ s3 = .string S ∧ s4 = .int .i64 k ∧ S.data.toList = be 4 n ++ (X.take k).flatMap nodeB ∧ Keep (fun _ => False) w wr) (fun _ s4 _ => n - (intOf s4).toNat)
  case atStart => exact ⟨0, B0, Nat.zero_le _, rfl, by go_num, by rw [blsQ _ B0 HB0.out]; simp, HK.out⟩
  case round =>
    clear HK c0
    obtain ⟨k, S, hk, rfl, rfl, hS, hK⟩ := hrel
    have HK : Hid (Keep (fun _ => False) w wr) := hK
    have HS : Hid (S.data.toList = be 4 n ++ (X.take k).flatMap nodeB) := hS
    have hsz : S.size ≤ 100000 := by
      rw [szQ hS, List.length_append, be_len]
      have h1 := nodes_len (X.take k) (fun e he => (HOk.out e (List.mem_of_mem_take he)).1)
      have h2 := List.length_take_le k X
      omega
    clear hS hK
    have c0 := (HXs.out.calm HK.out).cells.1
    by_cases hlt : k < n
    · obtain ⟨d, hd⟩ : ∃ d, X[k]? = some d := ⟨_, List.getElem?_eq_getElem (by rw [Hn.out]; exact hlt)⟩
      obtain ⟨g0, o0, e0, hb0, hr0⟩ := HRow.out.lay.resolve_left (by omega)
      subst e0
      have Ry : Hid (wr.rangeAt g0 (o0 + k * 66) (de d)) := HK.out.range hb0 (fun h => h) (hr0 k d hd)
      have HDl : Hid ((de d).length = 66) := de_len d
      have HDs : Hid ((de d).toArray.size = 66) := by show _ = _; rw [List.size_toArray]; exact de_len d
      have HD1 : Hid ((de d).toArray.all (·.oneCell') = true) := encD.all d
      have HU : Hid (d.u.length = 32) := d.hu
      have HRl : Hid (d.x.r.length = 32) := d.x.hr
      have HE : Hid ((X.take (k + 1)).flatMap nodeB = (X.take k).flatMap nodeB ++ nodeB d) := putB_take hd
      obtain ⟨hv16, hh1, hh2⟩ := HOk.out d (List.mem_of_getElem? hd)
      obtain ⟨BU, hBU⟩ : ∃ B : ByteArray, (⟨d.u.toArray⟩ : ByteArray) = B := ⟨_, rfl⟩
      have zBU : BU.size = 32 := bszQ _ _ d.hu BU hBU
      obtain ⟨BH, hBH⟩ : ∃ B : ByteArray, (⟨(be 4 d.x.h).toArray⟩ : ByteArray) = B := ⟨_, rfl⟩
      have zBH : BH.size = 4 := bszQ _ _ (be_len _ _) BH hBH
      obtain ⟨BR, hBR⟩ : ∃ B : ByteArray, (⟨d.x.r.toArray⟩ : ByteArray) = B := ⟨_, rfl⟩
      have zBR : BR.size = 32 := bszQ _ _ d.x.hr BR hBR
      obtain ⟨BL, hBL⟩ : ∃ B : ByteArray, (⟨(be 1 d.x.v.size).toArray⟩ : ByteArray) = B := ⟨_, rfl⟩
      have zBL : BL.size = 1 := bszQ _ _ (be_len _ _) BL hBL
      have HRes : Hid ((S ++ BU ++ BH ++ BR ++ BL ++ d.x.v : ByteArray).data.toList = be 4 n ++ (X.take (k + 1)).flatMap nodeB) := by
        show _ = _
        rw [HE.out, show nodeB d = d.u ++ be 4 d.x.h ++ d.x.r ++ be 1 d.x.v.size ++ d.x.v.data.toList from rfl]
        simp only [ByteArray.data_append, Array.toList_append, blsQ _ BU hBU, blsQ _ BH hBH, blsQ _ BR hBR, blsQ _ BL hBL, HS.out, List.append_assoc]
      have s1 : ¬ 9223372036854775807 < S.size + BU.size := by omega
      have s2 : ¬ 9223372036854775807 < S.size + BU.size + BH.size := by omega
      have s3 : ¬ 9223372036854775807 < S.size + BU.size + BH.size + BR.size := by omega
      have s4 : ¬ 9223372036854775807 < S.size + BU.size + BH.size + BR.size + BL.size := by omega
      have s5 : ¬ 9223372036854775807 < S.size + BU.size + BH.size + BR.size + BL.size + d.x.v.size := by omega
      have HU1 : Hid _ := hBU
      have HH1 : Hid _ := hBH
      have HR1 : Hid _ := hBR
      have HL1 : Hid _ := hBL
      clear zBU zBH zBR zBL hBU hBH hBR hBL hr0 hd hb0
      have HM : Hid (M (fun _ => False) wr _ [blk wr.heap.size (.cells (de d).toArray 37)]) := (M.start _ wr).alloc (.cells (de d).toArray 37) rfl
      go_wp2_with (first | ((with_reducible refine at_load 37 ?_); refine St.wl_load tyD rfl rfl rfl Ry.out HDl.out ?_; simp only [Act.put, List.setIfInBounds_toArray, List.set_cons_zero, List.set_cons_succ]) | ((with_reducible refine at_alloc 37 ?_); refine St.wl_alloc tyD rfl rfl (by (try simp only [World.size_alloc]); rfl) ?_; simp only [Act.put, List.setIfInBounds_toArray, List.set_cons_zero, List.set_cons_succ]) | ((with_reducible refine at_store 37 ?_); refine St.wl_storeN (W := wr) tyD rfl rfl rfl rfl rfl (by (try simp only [World.size_alloc])) (show _ = Value.agg (de d).toArray from rfl) HDs.out rfl HD1.out ?_))
      refine Txt.wp_region_text (deA wr.heap.size d) [0, 0, 1, 4, 0, 0, 2, 4, 0, 0, 2, 4, 0, 0, 2, 0, 4, 0, 0, 2, 0, 0] (by kernel_rfl) (by kernel_rfl) (deA_of (HM.out.drew.range 0 rfl)) ?_
      have HM : Hid _ := HM.out.drew
      (repeat (first | (refine Txt.tl_pure (v := ?_) (by rfl) ?_ ?_; rotate_left; (focus (intro _; go_simp; try with_reducible rfl)); simp only [Act.put, List.setIfInBounds_toArray, List.set_cons_zero, List.set_cons_succ]) | (refine Txt.tl_rowN (n := 32) (ty := 35) (by rfl) (by rfl) (by rfl) (rng_u (HM.out.range 0 rfl)) (by kernel_rfl) (by rw [List.length_map]; exact HU.out) ?_; simp only [Act.put, List.setIfInBounds_toArray, List.set_cons_zero, List.set_cons_succ]) | (refine Txt.tl_rowSN (n := 32) (ty := 35) (by rfl) (by rfl) (by rfl) (fun _ h => h.2.2.1) (by kernel_rfl) (by rw [List.length_map]; exact HRl.out) ?_; simp only [Act.put, List.setIfInBounds_toArray, List.set_cons_zero, List.set_cons_succ]) | (refine Txt.tl_loadS (v := .int .i64 d.x.h) (ty := 3) (by rfl) (by rfl) (by rfl) (by kernel_rfl) (fun _ h => h.2.1) ?_; simp only [Act.put, List.setIfInBounds_toArray, List.set_cons_zero, List.set_cons_succ]) | (refine Txt.tl_loadS (v := .string d.x.v) (ty := 9) (by rfl) (by rfl) (by rfl) (by kernel_rfl) (fun _ h => h.2.2.2) ?_; simp only [Act.put, List.setIfInBounds_toArray, List.set_cons_zero, List.set_cons_succ])))
      refine Txt.tl_call Try.func78 (by kernel_rfl) (by kernel_rfl) (by rfl) (by rfl) (by rfl) (qraw_any _ d.u d.hu BU HU1.out) ?_
      rintro e w6 ⟨rfl, h1⟩
      have HM : Hid _ := HM.out.calm h1
      clear h1
      refine ⟨_, rfl, deA_of (HM.out.range 0 rfl), ?_⟩
      simp only [Act.put, List.setIfInBounds_toArray, List.set_cons_zero, List.set_cons_succ]
      (repeat (first | (refine Txt.tl_pure (v := ?_) (by rfl) ?_ ?_; rotate_left; (focus (intro _; go_simp; try with_reducible rfl)); simp only [Act.put, List.setIfInBounds_toArray, List.set_cons_zero, List.set_cons_succ]) | (refine Txt.tl_rowN (n := 32) (ty := 35) (by rfl) (by rfl) (by rfl) (rng_u (HM.out.range 0 rfl)) (by kernel_rfl) (by rw [List.length_map]; exact HU.out) ?_; simp only [Act.put, List.setIfInBounds_toArray, List.set_cons_zero, List.set_cons_succ]) | (refine Txt.tl_rowSN (n := 32) (ty := 35) (by rfl) (by rfl) (by rfl) (fun _ h => h.2.2.1) (by kernel_rfl) (by rw [List.length_map]; exact HRl.out) ?_; simp only [Act.put, List.setIfInBounds_toArray, List.set_cons_zero, List.set_cons_succ]) | (refine Txt.tl_loadS (v := .int .i64 d.x.h) (ty := 3) (by rfl) (by rfl) (by rfl) (by kernel_rfl) (fun _ h => h.2.1) ?_; simp only [Act.put, List.setIfInBounds_toArray, List.set_cons_zero, List.set_cons_succ]) | (refine Txt.tl_loadS (v := .string d.x.v) (ty := 9) (by rfl) (by rfl) (by rfl) (by kernel_rfl) (fun _ h => h.2.2.2) ?_; simp only [Act.put, List.setIfInBounds_toArray, List.set_cons_zero, List.set_cons_succ])))
      refine Txt.tl_call Try.func77 (by kernel_rfl) (by kernel_rfl) (by rfl) (by rfl) (by rfl) (rn4 _ d.x.h (by omega) (by omega) BH HH1.out) ?_
      rintro e w6 ⟨rfl, h1⟩
      have HM : Hid _ := HM.out.calm h1
      clear h1
      refine ⟨_, rfl, deA_of (HM.out.range 0 rfl), ?_⟩
      simp only [Act.put, List.setIfInBounds_toArray, List.set_cons_zero, List.set_cons_succ]
      (repeat (first | (refine Txt.tl_pure (v := ?_) (by rfl) ?_ ?_; rotate_left; (focus (intro _; go_simp; try with_reducible rfl)); simp only [Act.put, List.setIfInBounds_toArray, List.set_cons_zero, List.set_cons_succ]) | (refine Txt.tl_rowN (n := 32) (ty := 35) (by rfl) (by rfl) (by rfl) (rng_u (HM.out.range 0 rfl)) (by kernel_rfl) (by rw [List.length_map]; exact HU.out) ?_; simp only [Act.put, List.setIfInBounds_toArray, List.set_cons_zero, List.set_cons_succ]) | (refine Txt.tl_rowSN (n := 32) (ty := 35) (by rfl) (by rfl) (by rfl) (fun _ h => h.2.2.1) (by kernel_rfl) (by rw [List.length_map]; exact HRl.out) ?_; simp only [Act.put, List.setIfInBounds_toArray, List.set_cons_zero, List.set_cons_succ]) | (refine Txt.tl_loadS (v := .int .i64 d.x.h) (ty := 3) (by rfl) (by rfl) (by rfl) (by kernel_rfl) (fun _ h => h.2.1) ?_; simp only [Act.put, List.setIfInBounds_toArray, List.set_cons_zero, List.set_cons_succ]) | (refine Txt.tl_loadS (v := .string d.x.v) (ty := 9) (by rfl) (by rfl) (by rfl) (by kernel_rfl) (fun _ h => h.2.2.2) ?_; simp only [Act.put, List.setIfInBounds_toArray, List.set_cons_zero, List.set_cons_succ])))
      refine Txt.tl_call Try.func78 (by kernel_rfl) (by kernel_rfl) (by rfl) (by rfl) (by rfl) (qraw_any _ d.x.r d.x.hr BR HR1.out) ?_
      rintro e w6 ⟨rfl, h1⟩
      have HM : Hid _ := HM.out.calm h1
      clear h1
      refine ⟨_, rfl, deA_of (HM.out.range 0 rfl), ?_⟩
      simp only [Act.put, List.setIfInBounds_toArray, List.set_cons_zero, List.set_cons_succ]
      (repeat (first | (refine Txt.tl_pure (v := ?_) (by rfl) ?_ ?_; rotate_left; (focus (intro _; go_simp; try with_reducible rfl)); simp only [Act.put, List.setIfInBounds_toArray, List.set_cons_zero, List.set_cons_succ]) | (refine Txt.tl_rowN (n := 32) (ty := 35) (by rfl) (by rfl) (by rfl) (rng_u (HM.out.range 0 rfl)) (by kernel_rfl) (by rw [List.length_map]; exact HU.out) ?_; simp only [Act.put, List.setIfInBounds_toArray, List.set_cons_zero, List.set_cons_succ]) | (refine Txt.tl_rowSN (n := 32) (ty := 35) (by rfl) (by rfl) (by rfl) (fun _ h => h.2.2.1) (by kernel_rfl) (by rw [List.length_map]; exact HRl.out) ?_; simp only [Act.put, List.setIfInBounds_toArray, List.set_cons_zero, List.set_cons_succ]) | (refine Txt.tl_loadS (v := .int .i64 d.x.h) (ty := 3) (by rfl) (by rfl) (by rfl) (by kernel_rfl) (fun _ h => h.2.1) ?_; simp only [Act.put, List.setIfInBounds_toArray, List.set_cons_zero, List.set_cons_succ]) | (refine Txt.tl_loadS (v := .string d.x.v) (ty := 9) (by rfl) (by rfl) (by rfl) (by kernel_rfl) (fun _ h => h.2.2.2) ?_; simp only [Act.put, List.setIfInBounds_toArray, List.set_cons_zero, List.set_cons_succ])))
      refine Txt.tl_call Try.func77 (by kernel_rfl) (by kernel_rfl) (by rfl) (by rfl) (by rfl) (rn1 _ d.x.v.size (by omega) (by omega) BL HL1.out) ?_
      rintro e w6 ⟨rfl, h1⟩
      have HM : Hid _ := HM.out.calm h1
      clear h1
      refine ⟨_, rfl, deA_of (HM.out.range 0 rfl), ?_⟩
      simp only [Act.put, List.setIfInBounds_toArray, List.set_cons_zero, List.set_cons_succ]
      (repeat (first | (refine Txt.tl_pure (v := ?_) (by rfl) ?_ ?_; rotate_left; (focus (intro _; go_simp; try with_reducible rfl)); simp only [Act.put, List.setIfInBounds_toArray, List.set_cons_zero, List.set_cons_succ]) | (refine Txt.tl_rowN (n := 32) (ty := 35) (by rfl) (by rfl) (by rfl) (rng_u (HM.out.range 0 rfl)) (by kernel_rfl) (by rw [List.length_map]; exact HU.out) ?_; simp only [Act.put, List.setIfInBounds_toArray, List.set_cons_zero, List.set_cons_succ]) | (refine Txt.tl_rowSN (n := 32) (ty := 35) (by rfl) (by rfl) (by rfl) (fun _ h => h.2.2.1) (by kernel_rfl) (by rw [List.length_map]; exact HRl.out) ?_; simp only [Act.put, List.setIfInBounds_toArray, List.set_cons_zero, List.set_cons_succ]) | (refine Txt.tl_loadS (v := .int .i64 d.x.h) (ty := 3) (by rfl) (by rfl) (by rfl) (by kernel_rfl) (fun _ h => h.2.1) ?_; simp only [Act.put, List.setIfInBounds_toArray, List.set_cons_zero, List.set_cons_succ]) | (refine Txt.tl_loadS (v := .string d.x.v) (ty := 9) (by rfl) (by rfl) (by rfl) (by kernel_rfl) (fun _ h => h.2.2.2) ?_; simp only [Act.put, List.setIfInBounds_toArray, List.set_cons_zero, List.set_cons_succ])))
      refine Txt.tl_nil ?_
      go_wp2
      go_roundw
      case rel => exact ⟨k + 1, _, by omega, rfl, by go_num, HRes.out, HK.out.trans HM.out.keep⟩
      case measure => simp [intOf]; omega
    · obtain rfl : n = k := by omega
      obtain ⟨cs, hcs⟩ : ∃ cs, be 4 n ++ X.flatMap nodeB = cs := ⟨_, rfl⟩
      have HCs : Hid (be 4 n ++ X.flatMap nodeB = cs) := hcs
      have HS : Hid (S.data.toList = cs) := by show _ = _; rw [HS.out, List.take_of_length_le (by rw [Hn.out]; exact Nat.le_refl _), hcs]
      have hcl : cs.length ≤ 100000 := by rw [← szQ HS.out]; exact hsz
      obtain ⟨BG, hBG⟩ : ∃ B : ByteArray, (⟨(be 4 g).toArray⟩ : ByteArray) = B := ⟨_, rfl⟩
      have zBG : BG.size = 4 := bszQ _ _ (be_len _ _) BG hBG
      have s1 : ¬ 9223372036854775807 < S.size + BG.size := by omega
      have HG1 : Hid _ := hBG
      have c1 := (HXs.out.calm HK.out).cells.2
      clear hcs zBG hBG
      go_wp2_with (first | (go_at_call 77; refine (rn4 _ g (by omega) (by omega) BG HG1.out).mono ?_; rintro e w1 ⟨rfl, k1⟩; have HK : Hid _ := HK.out.trans k1; clear k1))
      have HS2 : Hid ((S ++ BG : ByteArray).data.toList = cs ++ be 4 g) := by show _ = _; simp only [ByteArray.data_append, Array.toList_append, blsQ _ BG HG1.out, HS.out]
      go_loopw [3, 6] (fun s3 s6 wr => ∃ (k : Nat) (T : ByteArray), k ≤ g ∧ s3 = .string T ∧ s6 = .int .i64 k ∧ T.data.toList = cs ++ be 4 g ++ (G.take k).flatten ∧ Keep (fun _ => False) w wr) (fun _ s6 _ => g - (intOf s6).toNat)
      case atStart => exact ⟨0, _, Nat.zero_le _, rfl, by go_num, by rw [HS2.out]; simp, HK.out⟩
      case round =>
        clear HK c0 c1 s1
        obtain ⟨k, T, hk, rfl, rfl, hT, hK⟩ := hrel
        have HK : Hid (Keep (fun _ => False) w wr) := hK
        have HT : Hid (T.data.toList = cs ++ be 4 g ++ (G.take k).flatten) := hT
        have c1 := (HXs.out.calm HK.out).cells.2
        by_cases hlt : k < g
        · obtain ⟨u, hu⟩ : ∃ u, G[k]? = some u := ⟨_, List.getElem?_eq_getElem (by rw [Hg.out]; exact hlt)⟩
          obtain ⟨g0, o0, e0, hb0, hr0⟩ := HGat.out.lay.resolve_left (by omega)
          subst e0
          have hul := HGat.out.size u (List.mem_of_getElem? hu)
          have R1 : Hid (wr.rangeAt g0 (o0 + k * 32) (u.map bv)) := HK.out.range hb0 (fun h => h) (hr0 k u hu)
          have HU : Hid (u.length = 32) := hul
          have HE : Hid ((G.take (k + 1)).flatten = (G.take k).flatten ++ u) := flat_takeW hu
          have hTs : T.size ≤ 1000000 := by
            rw [szQ hT, List.length_append, List.length_append, be_len, Ids.flat_take G k HGat.out.size (by rw [Hg.out]; omega)]
            omega
          obtain ⟨BU, hBU⟩ : ∃ B : ByteArray, (⟨u.toArray⟩ : ByteArray) = B := ⟨_, rfl⟩
          have zBU : BU.size = 32 := bszQ _ _ hul BU hBU
          have s1 : ¬ 9223372036854775807 < T.size + BU.size := by omega
          have HU1 : Hid _ := hBU
          have HRes : Hid ((T ++ BU : ByteArray).data.toList = cs ++ be 4 g ++ (G.take (k + 1)).flatten) := by
            show _ = _
            rw [HE.out]
            simp only [ByteArray.data_append, Array.toList_append, blsQ _ BU hBU, HT.out, List.append_assoc]
          clear zBU hBU hTs hr0 hu hb0 hT hK hul
          go_wp2_with (first | ((with_reducible refine at_load 35 ?_); refine Ids.wl_load rfl rfl rfl HU.out R1.out ?_; simp only [Act.put, List.setIfInBounds_toArray, List.set_cons_zero, List.set_cons_succ]) | (go_at_call 78; refine (qraw_any _ u HU.out BU HU1.out).mono ?_; rintro e w1 ⟨rfl, k1⟩; have HK : Hid _ := HK.out.trans k1; clear k1))
          go_roundw
          case rel => exact ⟨k + 1, _, by omega, rfl, by go_num, HRes.out, HK.out⟩
          case measure => simp [intOf]; omega
        · obtain rfl : g = k := by omega
          have HP : Hid (T = ⟨(putB X G).toArray⟩) := obQ (by rw [hT, List.take_of_length_le (by rw [Hg.out]; exact Nat.le_refl _)]; unfold putB; rw [Hn.out, Hg.out, HCs.out])
          clear hT hK
          go_wp2
          go_ret
          exact ⟨by rw [← HP.out]; rfl, HK.out⟩
end Sq
end Go.Proofs.Ytgpimeobkacniaa
