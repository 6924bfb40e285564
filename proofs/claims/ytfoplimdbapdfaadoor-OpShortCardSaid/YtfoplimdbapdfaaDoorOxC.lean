/-
  op.lay, of any kind; op.Put. petrelref07: short, raw.
-/
import Derived.Test.YtfoplimdbapdfaaDoorOx3
import Derived.Test.YtfoplimdbapdfaaDoorOx6
set_option linter.unusedVariables false
set_option linter.unusedSimpArgs false
namespace Go.Proofs.YtfoplimdbapdfaaDoor
open Go.RowKit
namespace Ox
open Oct Ids
open OctRd (be_len)
open Mem

/-- What of an operation that may be. -/
theorem ck_ok {K N : Int} {Y V : ByteArray} {r : List UInt8} {n : Nat} {l : List (List UInt8)} (h : ck K N Y V r n l = 0) : (1 ≤ K ∧ K ≤ 7) ∧ sp K N Y V r n = false ∧ Y.size ≤ 16 ∧ V.size ≤ 16 ∧ nb K N = true ∧ n ≤ 8 ∧ isL l = true := by
  unfold ck at h
  repeat' split at h
  all_goals first | omega | skip
  rename_i h1 h2 h3 h4 h5 h6
  refine ⟨by omega, by simpa using h2, by omega, by omega, by simpa using h4, by omega, by simpa using h6⟩
theorem nb_rng {K N : Int} (h : nb K N = true) : -2147483648 ≤ N ∧ N < 2147483648 ∧ (K = 4 → 0 ≤ N) := by
  unfold nb at h
  simp at h
  omega
theorem lay_any (w : World) (b : Nat) (bs : List UInt8) (K N : Int) (Y V : ByteArray) (r : List UInt8) (a : Option Addr) (n c : Nat) (l : List (List UInt8)) (sv : Value) (h : IsW w b bs 0 sv) (hA : At w a n l) (hr : r.length = 32) (hc : ck K N Y V r n l = 0) (hl : bs.length ≤ 100000) (hna : n = 0 ∨ ∀ g o, a = some ⟨g, o, none⟩ → g ≠ b ∧ sv.ownBlock ≠ some g) :
    Calls Tryd.prog 50 #[.pointer (some ⟨b, 0, none⟩), .agg (oc K N Y V r (.slice a n c)).toArray] w fun e w' => e = .returned (.tuple #[]) ∧ ∃ sv', IsW w' b (bs ++ body K N Y V r l) 0 sv' ∧ After w w' b sv sv' := by
  obtain ⟨hK, _, hY, hV, hb, hn, _⟩ := ck_ok hc
  obtain ⟨n1, n2, n3⟩ := nb_rng hb
  have z0 : ∀ k : Int, k ≠ 1 → shf k = 0 := fun k hk => if_neg hk
  rcases (by omega : K = 1 ∨ K = 2 ∨ K = 3 ∨ K = 4 ∨ K = 5 ∨ K = 6 ∨ K = 7) with rfl | rfl | rfl | rfl | rfl | rfl | rfl
  · have e : shf 1 = 2147483648 := rfl
    exact lay_1 w b bs N Y V r a n c l sv h hA hr hn hY hV (by omega) (by omega) (fun _ => by omega) hl hna
  · have e : shf 2 = 0 := rfl
    exact lay_2 w b bs N Y V r a n c l sv h hA hr hn hY hV (by omega) (by omega) (fun e => by cases e) hl hna
  · have e : shf 3 = 0 := rfl
    exact lay_3 w b bs N Y V r a n c l sv h hA hr hn hY hV (by omega) (by omega) (fun e => by cases e) hl hna
  · have e : shf 4 = 0 := rfl
    exact lay_4 w b bs N Y V r a n c l sv h hA hr hn hY hV (by omega) (by omega) (fun _ => by have := n3 rfl; omega) hl hna
  · have e : shf 5 = 0 := rfl
    exact lay_5 w b bs N Y V r a n c l sv h hA hr hn hY hV (by omega) (by omega) (fun e => by cases e) hl hna
  · have e : shf 6 = 0 := rfl
    exact lay_6 w b bs N Y V r a n c l sv h hA hr hn hY hV (by omega) (by omega) (fun e => by cases e) hl hna
  · have e : shf 7 = 0 := rfl
    exact lay_7 w b bs N Y V r a n c l sv h hA hr hn hY hV (by omega) (by omega) (fun e => by cases e) hl hna
/-- .. of a writer in a bundle. -/
theorem lay_m {F : Nat → Prop} {w0 w : World} {it : List It} (h : M F w0 w it) (i : Nat) {b : Nat} {bs : List UInt8} {sv : Value} (hi : it[i]? = some (wr b bs sv)) (K N : Int) (Y V : ByteArray) (r : List UInt8) (a : Option Addr) (n c : Nat) (l : List (List UInt8)) (hA : At w0 a n l) (hr : r.length = 32) (hc : ck K N Y V r n l = 0) (hl : bs.length ≤ 100000) (hna : n = 0 ∨ ∀ g o, a = some ⟨g, o, none⟩ → ¬ F g) :
    Calls Tryd.prog 50 #[.pointer (some ⟨b, 0, none⟩), .agg (oc K N Y V r (.slice a n c)).toArray] w fun e w' => e = .returned (.tuple #[]) ∧ ∃ sv', M F w0 w' (it.set i (wr b (bs ++ body K N Y V r l) sv')) := by
  have h0 : IsW w b bs 0 sv := h.get i hi
  have hA2 : At w a n l := by
    refine ⟨hA.len, hA.size, hA.most, ?_⟩
    rcases hna with e | e
    · exact .inl e
    · exact (hA.keep h.keep e).lay
  refine (lay_any w b bs K N Y V r a n c l sv h0 hA2 hr hc hl ?_).mono ?_
  · by_cases hz : n = 0
    · exact .inl hz
    · obtain ⟨g, off, ha, hg, _⟩ := hA.lay.resolve_left hz
      have hF := (hna.resolve_left hz) g off ha
      refine .inr fun g2 o2 e => ?_
      rw [ha] at e
      cases e
      have ne : ∀ k, (wr b bs sv).foot k → k ≠ g := fun k hk e => by
        subst e
        rcases (h.rng i _ hi k hk).1 with e | e
        · omega
        · exact hF e
      exact ⟨fun e => ne b (.inl rfl) e.symm, fun e => ne g (.inr e) rfl⟩
  · rintro e w' ⟨rfl, sv', h1, k1⟩
    exact ⟨rfl, sv', h.wrote i hi h1 k1⟩
/-- The bytes of an operation. -/
def ob (K N : Int) (Y V : ByteArray) (r : List UInt8) (l : List (List UInt8)) : List UInt8 := be 1 K ++ body K N Y V r l
/-- What 'Put' answers. -/
def pv (K N : Int) (Y V : ByteArray) (r : List UInt8) (n : Nat) (l : List (List UInt8)) : ByteArray := if ck K N Y V r n l = 0 then ⟨(ob K N Y V r l).toArray⟩ else ByteArray.empty
set_option maxRecDepth 100000 in
theorem put_bad (w : World) (hT : TabP w) (K N : Int) (Y V : ByteArray) (r : List UInt8) (a : Option Addr) (n c : Nat) (l : List (List UInt8)) (hr : r.length = 32) (h : At w a n l) (v : Int) (hv : ck K N Y V r n l = v) (hv0 : v ≠ 0) :
    Calls Tryd.prog 15 #[.agg (oc K N Y V r (.slice a n c)).toArray] w fun e w' => e = .returned (.tuple #[.string ByteArray.empty, .int .i64 v]) ∧ Keep (fun _ => False) w w' := by
  have h' : (v != 0) = true := by simpa using hv0
  have HT : Hid (TabP w) := hT
  have A1 : Hid (At w a n l) := h
  have Hv : Hid _ := hv
  have Hr : Hid (r.length = 32) := hr
  have E0 : Hid _ := OAt.new (K := K) (N := N) (Y := Y) (V := V) (rv := .slice a n c) w hr
  have HK : Hid (Keep (fun _ => False) w (w.alloc (.cells (oc K N Y V r (.slice a n c)).toArray 27))) := (Keep.refl _ _).alloc _
  generalize hX : (oc K N Y V r (.slice a n c)).toArray = X at E0 HK ⊢
  clear h hv hX hr hT hv0
  go_enter Tryd.func15, Tryd.ntmps15
  go_wp2_with (first | (go_at_call 17; refine (check_any _ (HT.out.calm HK.out) K N Y V r a n c l Hr.out (A1.out.calm HK.out) v Hv.out).mono ?_; rintro e w1 ⟨rfl, k1⟩; have HK : Hid _ := HK.out.trans k1; clear k1) | (refine St.wl_load tyO (by rfl) rfl rfl E0.out.all (oc_len _ _ _ _ _ _ Hr.out) ?_; simp only [Act.put, List.setIfInBounds_toArray, List.set_cons_zero, List.set_cons_succ]))
  go_ret2
  exact ⟨rfl, HK.out⟩
set_option maxRecDepth 100000 in
set_option maxHeartbeats 2000000 in
theorem put_ok (w : World) (hT : TabP w) (K N : Int) (Y V : ByteArray) (r : List UInt8) (a : Option Addr) (n c : Nat) (l : List (List UInt8)) (hr : r.length = 32) (h : At w a n l) (hv : ck K N Y V r n l = 0) :
    Calls Tryd.prog 15 #[.agg (oc K N Y V r (.slice a n c)).toArray] w fun e w' => e = .returned (.tuple #[.string ⟨(ob K N Y V r l).toArray⟩, .int .i64 0]) ∧ Keep (fun _ => False) w w' := by
  have HT : Hid (TabP w) := hT
  have A1 : Hid (At w a n l) := h
  have Hv : Hid (ck K N Y V r n l = 0) := hv
  have Hr : Hid (r.length = 32) := hr
  have HK7 : Hid (1 ≤ K ∧ K ≤ 7) := (ck_ok hv).1
  have E0 : Hid _ := OAt.new (K := K) (N := N) (Y := Y) (V := V) (rv := .slice a n c) w hr
  have HM : Hid (M (fun _ => False) w _ [blk w.heap.size (.cells (oc K N Y V r (.slice a n c)).toArray 27)]) := (M.start _ w).alloc _ rfl
  generalize hX : (oc K N Y V r (.slice a n c)).toArray = X at E0 HM ⊢
  have HX : Hid ((oc K N Y V r (.slice a n c)).toArray = X) := hX
  clear h hv hX hr hT
  go_enter Tryd.func15, Tryd.ntmps15
  go_wp2_with (first | (go_at_call 17; refine (check_any _ (HT.out.calm HM.out.keep) K N Y V r a n c l Hr.out (A1.out.calm HM.out.keep) 0 Hv.out).mono ?_; rintro e w1 ⟨rfl, k1⟩; have HM : Hid _ := HM.out.calm k1; clear k1; have E0 : Hid (OAt _ w.heap.size K N Y V r (.slice a n c)) := ⟨by rw [HX.out]; exact HM.out.get 0 rfl, Hr.out⟩; obtain ⟨g0, g1, g2, g3, g36⟩ := E0.out.cells) | ((fail_if_success go_not_at_region 4); refine Txt.wp_region_text (id := 4) (fun w' => w'.cell? ⟨w.heap.size, 0, none⟩ = some (.int .i64 K)) [4, 0, 2, 4, 0] (by kernel_rfl) (by kernel_rfl) g0 ?_; (repeat (first | (refine Txt.tl_pure (v := ?_) (by rfl) ?_ ?_; rotate_left; (focus (intro _; go_simp; try with_reducible rfl)); simp only [Act.put, List.setIfInBounds_toArray, List.set_cons_zero, List.set_cons_succ]) | (refine Txt.tl_skip (by rfl) (by first | trivial | exact HS.out) ?_; simp only [Act.put, List.setIfInBounds_toArray, List.set_cons_zero, List.set_cons_succ]) | (refine Txt.tl_load (v := ?_) (by rfl) (by rfl) (by rfl) (by kernel_rfl) ?_ ?_; rotate_left; (focus (first | assumption | (go_simp; done) | (go_simp; with_reducible rfl))); simp only [Act.put, List.setIfInBounds_toArray, List.set_cons_zero, List.set_cons_succ]) | (refine Txt.tl_loadB (v := ?_) (by rfl) (by rfl) (by rfl) (by kernel_rfl) ?_ ?_; rotate_left; (focus assumption); simp only [Act.put, List.setIfInBounds_toArray, List.set_cons_zero, List.set_cons_succ]))); refine Txt.tl_call Tryd.func48 (by kernel_rfl) (by kernel_rfl) (by rfl) (by rfl) (by rfl) (M.new HM.out.drew rfl) ?_; rintro e w2 ⟨rfl, h1⟩; have HM : Hid _ := h1; clear h1; have E0 : Hid (OAt _ w.heap.size K N Y V r (.slice a n c)) := ⟨by rw [HX.out]; exact HM.out.get 0 rfl, Hr.out⟩; obtain ⟨g0, g1, g2, g3, g36⟩ := E0.out.cells; refine ⟨_, rfl, g0, ?_⟩; simp only [Act.put, List.setIfInBounds_toArray, List.set_cons_zero, List.set_cons_succ]; (repeat (first | (refine Txt.tl_pure (v := ?_) (by rfl) ?_ ?_; rotate_left; (focus (intro _; go_simp; try with_reducible rfl)); simp only [Act.put, List.setIfInBounds_toArray, List.set_cons_zero, List.set_cons_succ]) | (refine Txt.tl_skip (by rfl) (by first | trivial | exact HS.out) ?_; simp only [Act.put, List.setIfInBounds_toArray, List.set_cons_zero, List.set_cons_succ]) | (refine Txt.tl_load (v := ?_) (by rfl) (by rfl) (by rfl) (by kernel_rfl) ?_ ?_; rotate_left; (focus (first | assumption | (go_simp; done) | (go_simp; with_reducible rfl))); simp only [Act.put, List.setIfInBounds_toArray, List.set_cons_zero, List.set_cons_succ]) | (refine Txt.tl_loadB (v := ?_) (by rfl) (by rfl) (by rfl) (by kernel_rfl) ?_ ?_; rotate_left; (focus assumption); simp only [Act.put, List.setIfInBounds_toArray, List.set_cons_zero, List.set_cons_succ]))); refine Txt.tl_loadS (v := .int .i64 K) (by rfl) (by rfl) (by rfl) (by kernel_rfl) (fun _ h => h) ?_; simp only [Act.put, List.setIfInBounds_toArray, List.set_cons_zero, List.set_cons_succ]; (repeat (first | (refine Txt.tl_pure (v := ?_) (by rfl) ?_ ?_; rotate_left; (focus (intro _; go_simp; try with_reducible rfl)); simp only [Act.put, List.setIfInBounds_toArray, List.set_cons_zero, List.set_cons_succ]) | (refine Txt.tl_skip (by rfl) (by first | trivial | exact HS.out) ?_; simp only [Act.put, List.setIfInBounds_toArray, List.set_cons_zero, List.set_cons_succ]) | (refine Txt.tl_load (v := ?_) (by rfl) (by rfl) (by rfl) (by kernel_rfl) ?_ ?_; rotate_left; (focus (first | assumption | (go_simp; done) | (go_simp; with_reducible rfl))); simp only [Act.put, List.setIfInBounds_toArray, List.set_cons_zero, List.set_cons_succ]) | (refine Txt.tl_loadB (v := ?_) (by rfl) (by rfl) (by rfl) (by kernel_rfl) ?_ ?_; rotate_left; (focus assumption); simp only [Act.put, List.setIfInBounds_toArray, List.set_cons_zero, List.set_cons_succ]))); refine Txt.tl_call Tryd.func49 (by kernel_rfl) (by kernel_rfl) (by rfl) (by rfl) (by rfl) (M.wnum HM.out 1 rfl K 1 (by omega) (by have := HK7.out; omega) (by have := HK7.out; omega) (by simp)) ?_; rintro e w3 ⟨rfl, sv3, h1⟩; have HM : Hid _ := h1; clear h1; have E0 : Hid (OAt _ w.heap.size K N Y V r (.slice a n c)) := ⟨by rw [HX.out]; exact HM.out.get 0 rfl, Hr.out⟩; obtain ⟨g0, g1, g2, g3, g36⟩ := E0.out.cells; refine ⟨_, rfl, g0, ?_⟩; simp only [Act.put, List.setIfInBounds_toArray, List.set_cons_zero, List.set_cons_succ]; (repeat (first | (refine Txt.tl_pure (v := ?_) (by rfl) ?_ ?_; rotate_left; (focus (intro _; go_simp; try with_reducible rfl)); simp only [Act.put, List.setIfInBounds_toArray, List.set_cons_zero, List.set_cons_succ]) | (refine Txt.tl_skip (by rfl) (by first | trivial | exact HS.out) ?_; simp only [Act.put, List.setIfInBounds_toArray, List.set_cons_zero, List.set_cons_succ]) | (refine Txt.tl_load (v := ?_) (by rfl) (by rfl) (by rfl) (by kernel_rfl) ?_ ?_; rotate_left; (focus (first | assumption | (go_simp; done) | (go_simp; with_reducible rfl))); simp only [Act.put, List.setIfInBounds_toArray, List.set_cons_zero, List.set_cons_succ]) | (refine Txt.tl_loadB (v := ?_) (by rfl) (by rfl) (by rfl) (by kernel_rfl) ?_ ?_; rotate_left; (focus assumption); simp only [Act.put, List.setIfInBounds_toArray, List.set_cons_zero, List.set_cons_succ]))); refine Txt.tl_nil ?_) | (refine St.wl_load tyO (by rfl) rfl rfl E0.out.all (oc_len _ _ _ _ _ _ Hr.out) ?_; simp only [Act.put, List.setIfInBounds_toArray, List.set_cons_zero, List.set_cons_succ]) | (go_at_call 50; refine (lay_m HM.out 1 rfl K N Y V r a n c l A1.out Hr.out Hv.out (by simp [be]) (.inr fun _ _ _ h => h)).mono ?_; rintro e w4 ⟨rfl, sv4, h1⟩; have HM : Hid _ := h1; clear h1; have E0 : Hid (OAt _ w.heap.size K N Y V r (.slice a n c)) := ⟨by rw [HX.out]; exact HM.out.get 0 rfl, Hr.out⟩; obtain ⟨g0, g1, g2, g3, g36⟩ := E0.out.cells) | (go_at_call 51; refine (M.wdone HM.out 1 rfl).mono ?_; rintro e w5 ⟨rfl, h1⟩; have HM : Hid _ := h1; clear h1))
  go_ret2
  exact ⟨rfl, HM.out.keep⟩
theorem put_any (w : World) (hT : TabP w) (K N : Int) (Y V : ByteArray) (r : List UInt8) (a : Option Addr) (n c : Nat) (l : List (List UInt8)) (hr : r.length = 32) (h : At w a n l) :
    Calls Tryd.prog 15 #[.agg (oc K N Y V r (.slice a n c)).toArray] w fun e w' => e = .returned (.tuple #[.string (pv K N Y V r n l), .int .i64 (ck K N Y V r n l)]) ∧ Keep (fun _ => False) w w' := by
  by_cases hc : ck K N Y V r n l = 0
  · rw [show pv K N Y V r n l = ⟨(ob K N Y V r l).toArray⟩ from if_pos hc, hc]
    exact put_ok w hT K N Y V r a n c l hr h hc
  · rw [show pv K N Y V r n l = ByteArray.empty from if_neg hc]
    exact put_bad w hT K N Y V r a n c l hr h _ rfl hc
end Ox
end Go.Proofs.YtfoplimdbapdfaaDoor
