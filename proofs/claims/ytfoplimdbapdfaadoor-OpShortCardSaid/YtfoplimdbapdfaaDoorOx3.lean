/-
  op.Check.
-/
import Derived.Test.YtfoplimdbapdfaaDoorOx2
import Derived.Test.YtfoplimdbapdfaaDoorGIf
set_option linter.unusedVariables false
set_option linter.unusedSimpArgs false
namespace Go.Proofs.YtfoplimdbapdfaaDoor
open Go.RowKit
namespace Ox
open Oct Ids

theorem tyO : St.Ty 27 37 (oc 0 0 ByteArray.empty ByteArray.empty Z32 (.slice none 0 0)).toArray := ⟨⟨_, Tryd.underlying27, rfl⟩, by kernel_rfl, by kernel_rfl⟩
/-- Does it rise? -/
def isL (l : List (List UInt8)) : Bool := decide (l = IdL.setL l)
theorem is_v (w : World) (a : Option Addr) (n c : Nat) (l : List (List UInt8)) (h : At w a n l) (hm : n ≤ 1000000) (v : Bool) (hv : isL l = v) :
    Calls Tryd.prog 58 #[.slice a n c] w fun e w' => e = .returned (.bool v) ∧ Keep (fun _ => False) w w' := by
  refine (is_any w a n c l h hm).mono ?_
  rintro e w' ⟨⟨r, rfl, hr⟩, k⟩
  refine ⟨?_, k⟩
  have e : r = v := by
    rw [← hv]
    unfold isL
    cases r with
    | true => exact (decide_eq_true ((IdL.srt_iff l).2 (hr.1 rfl)).symm).symm
    | false =>
      symm
      refine decide_eq_false fun e => ?_
      have := hr.2 ((IdL.srt_iff l).1 e.symm)
      cases this
  rw [e]
/-- What 'Check' answers. -/
def ck (K N : Int) (Y V : ByteArray) (r : List UInt8) (n : Nat) (l : List (List UInt8)) : Int :=
  if K < 1 ∨ 7 < K then 10 else if sp K N Y V r n = true then 4 else if 16 < Y.size ∨ 16 < V.size then 3 else if nb K N = false then 5 else if 8 < n then 6 else if isL l = false then 4 else 0
theorem pk_none {K : Int} (h : K < 1 ∨ 7 < K) : pk K = 0 := by
  unfold pk
  by_cases h2 : K < 0 ∨ 7 < K
  · rw [if_pos h2]
  · obtain rfl : K = 0 := by omega
    rfl
theorem pk_some {K : Int} (h : 1 ≤ K ∧ K ≤ 7) : (pk K == 0) = false := by
  rcases (by omega : K = 1 ∨ K = 2 ∨ K = 3 ∨ K = 4 ∨ K = 5 ∨ K = 6 ∨ K = 7) with rfl | rfl | rfl | rfl | rfl | rfl | rfl <;> rfl
set_option maxRecDepth 100000 in
set_option maxHeartbeats 1000000 in
theorem check_any (w : World) (hT : TabP w) (K N : Int) (Y V : ByteArray) (r : List UInt8) (a : Option Addr) (n c : Nat) (l : List (List UInt8)) (hr : r.length = 32) (h : At w a n l) (v : Int) (hv : ck K N Y V r n l = v) :
    Calls Tryd.prog 17 #[.agg (oc K N Y V r (.slice a n c)).toArray] w fun e w' => e = .returned (.int .i64 v) ∧ Keep (fun _ => False) w w' := by
  have HT : Hid (TabP w) := hT
  have A1 : Hid (At w a n l) := h
  have Hr : Hid (r.length = 32) := hr
  have HV : Hid (ck K N Y V r n l = v) := hv
  have E0 : Hid _ := OAt.new (K := K) (N := N) (Y := Y) (V := V) (rv := .slice a n c) w hr
  generalize hX : (oc K N Y V r (.slice a n c)).toArray = X at E0 ⊢
  have HX : Hid ((oc K N Y V r (.slice a n c)).toArray = X) := hX
  have HK : Hid (Keep (fun _ => False) w (w.alloc (.cells X 27))) := (Keep.refl _ _).alloc _
  obtain ⟨g0, g1, g2, g3, g36⟩ := E0.out.cells
  obtain ⟨p, hp⟩ : ∃ p, pk K = p := ⟨_, rfl⟩
  obtain ⟨s, hs⟩ : ∃ s, sp K N Y V r n = s := ⟨_, rfl⟩
  obtain ⟨b, hb⟩ : ∃ b, nb K N = b := ⟨_, rfl⟩
  obtain ⟨i, hi⟩ : ∃ i, isL l = i := ⟨_, rfl⟩
  have Hp : Hid _ := hp
  have Hs : Hid _ := hs
  have Hb : Hid _ := hb
  have Hi : Hid _ := hi
  by_cases hK : K < 1 ∨ 7 < K
  · obtain rfl : v = 10 := by rw [← hv]; unfold ck; rw [if_pos hK]
    rw [pk_none hK] at hp
    subst hp
    clear hK hv hb hs hi hX hr hT h
    go_enter Tryd.func17, Tryd.ntmps17
    go_wp2_with (first | (go_at_call 39; refine (of_any _ (HT.out.calm HK.out) K).mono ?_; rw [Hp.out]; rintro e w1 ⟨rfl, rfl⟩))
    go_ret
    exact ⟨rfl, HK.out⟩
  · have HK7 : Hid (1 ≤ K ∧ K ≤ 7) := by show _ ∧ _; omega
    have hp0 := pk_some HK7.out
    rw [hp] at hp0
    have e : (if s = true then (4 : Int) else if 16 < Y.size ∨ 16 < V.size then 3 else if b = false then 5 else if 8 < n then 6 else if i = false then 4 else 0) = v := by rw [← hv, ← hs, ← hb, ← hi]; unfold ck; rw [if_neg hK]
    have HE : Hid _ := e
    have hm := h.most
    unfold maxLen at hm
    clear hp hK hv hb hs hi hX hr hT h e HV
    go_enter Tryd.func17, Tryd.ntmps17
    go_wp2_with (first | (go_at_call 39; refine (of_any _ (HT.out.calm HK.out) K).mono ?_; rw [Hp.out]; rintro e w1 ⟨rfl, rfl⟩) | (refine St.wl_load tyO (by rfl) rfl rfl E0.out.all (oc_len _ _ _ _ _ _ Hr.out) ?_; simp only [Act.put, List.setIfInBounds_toArray, List.set_cons_zero, List.set_cons_succ]) | (go_at_call 56; refine (spare_any _ (HT.out.calm HK.out) K N HK7.out Y V r a n c Hr.out s Hs.out).mono ?_; rintro e w2 ⟨rfl, k1⟩; have HK : Hid _ := HK.out.trans k1; have E0 : Hid _ := E0.out.calm k1; clear k1; obtain ⟨g0, g1, g2, g3, g36⟩ := E0.out.cells) | (go_at_call 57; refine (number_any _ K N Y V r (.slice a n c) Hr.out b Hb.out).mono ?_; rintro e w3 ⟨rfl, k1⟩; have HK : Hid _ := HK.out.trans k1; have E0 : Hid _ := E0.out.calm k1; clear k1; obtain ⟨g0, g1, g2, g3, g36⟩ := E0.out.cells) | (go_at_call 58; refine (is_v _ a n c l (A1.out.calm HK.out) (by omega) i Hi.out).mono ?_; rintro e w4 ⟨rfl, k1⟩; have HK : Hid _ := HK.out.trans k1; have E0 : Hid _ := E0.out.calm k1; clear k1; obtain ⟨g0, g1, g2, g3, g36⟩ := E0.out.cells))
    all_goals
      go_ret
      refine ⟨?_, HK.out⟩
      have e := HE.out
      repeat' split at e
      all_goals first | (subst e; rfl) | (exfalso; simp_all; done) | (exfalso; simp_all; omega)
end Ox
end Go.Proofs.YtfoplimdbapdfaaDoor
