/-
  petrelref07.Check: each kind (4).
-/
import Derived.Test.YtfoplimdbapdfaaDoorOx7
set_option linter.unusedVariables false
set_option linter.unusedSimpArgs false
namespace Go.Proofs.YtfoplimdbapdfaaDoor
open Go.RowKit
namespace Ox
open Oct Ids

set_option maxRecDepth 100000 in
set_option maxHeartbeats 4000000 in
theorem rcheck_4 (w : World) (N : Int) (Y V : ByteArray) (r : List UInt8) (a : Option Addr) (n c : Nat) (l : List (List UInt8)) (hr : r.length = 32) (h : At w a n l) :
    Calls Tryd.prog 18 #[.agg (oc 4 N Y V r (.slice a n c)).toArray] w fun e w' => e = .returned (.int .i64 (ck 4 N Y V r n l)) ∧ Keep (fun _ => False) w w' := by
  by_cases hz : r = Z32
  · have hcmp := neq_z r hr _ (ne_zf hz)
    by_cases hsn : n = 0
    · subst hsn
      by_cases hy6 : 16 < Y.size
      · skip
        have e : ck 4 N Y V r 0 l = (if 16 < Y.size ∨ 16 < V.size then (3 : Int) else if nb 4 N = false then 5 else if 8 < 0 then 6 else if isL l = false then 4 else 0) := by
          have e2 : sp 4 N Y V r 0 = false := by simp [sp, iN, iK, iV, iR, iS, hr, hz]
          unfold ck
          rw [if_neg (by omega), if_neg (by rw [e2]; decide)]
        rw [e]
        obtain ⟨i, hi⟩ : ∃ i, isL l = i := ⟨_, rfl⟩
        rw [hi]
        obtain ⟨v, hv⟩ : ∃ v, (if 16 < Y.size ∨ 16 < V.size then (3 : Int) else if nb 4 N = false then 5 else if 8 < 0 then 6 else if i = false then 4 else 0) = v := ⟨_, rfl⟩
        rw [hv]
        have HE : Hid _ := hv
        have Hi : Hid _ := hi
        have hm := h.most
        unfold maxLen at hm
        have hh1 : (hs 4).toList.isEmpty = false := by decide +kernel
        have hh2 : ¬ (hs 4).toList = [] := by decide +kernel
        have hgd := guard_id
        have Hr : Hid (r.length = 32) := hr
        have A1 : Hid (At w a 0 l) := h
        have E0 : Hid _ := OAt.new (K := 4) (N := N) (Y := Y) (V := V) (rv := .slice a 0 c) w hr
        generalize hX : (oc 4 N Y V r (.slice a 0 c)).toArray = X at E0 ⊢
        have HK : Hid (Keep (fun _ => False) w (w.alloc (.cells X 27))) := (Keep.refl _ _).alloc _
        obtain ⟨g0, g1, g2, g3, g36⟩ := E0.out.cells
        have Hrr : Hid _ := E0.out.ref
        clear e hX hr h hv hi
        try clear hz
        go_enter Tryd.func18, Tryd.ntmps18
        go_wp2_with (first | (go_at_call 43; refine (has_any _ 4 (by decide)).mono ?_; rintro e w1 ⟨rfl, rfl⟩) | (go_at_call 59; refine (in_any _ 4 _ _ (by decide) (by decide) rfl).mono ?_; rintro e w1 ⟨rfl, rfl⟩) | ((with_reducible refine at_load 24 ?_); refine wl_loadG (by rfl) rfl rfl Hr.out Hrr.out ?_; simp only [Act.put, List.setIfInBounds_toArray, List.set_cons_zero, List.set_cons_succ]) | (go_at_call 60; refine (xis_v _ a 0 c l (A1.out.calm HK.out) (by omega) i Hi.out).mono ?_; rintro e w4 ⟨rfl, k1⟩; have HK : Hid _ := HK.out.trans k1; clear k1))
        all_goals
          go_ret
          refine ⟨?_, HK.out⟩
          have e := HE.out
          unfold nb at e
          repeat' split at e
          all_goals first | (subst e; rfl) | (exfalso; simp_all; done) | (exfalso; simp_all; omega)
      · by_cases hv6 : 16 < V.size
        · skip
          have e : ck 4 N Y V r 0 l = (if 16 < Y.size ∨ 16 < V.size then (3 : Int) else if nb 4 N = false then 5 else if 8 < 0 then 6 else if isL l = false then 4 else 0) := by
            have e2 : sp 4 N Y V r 0 = false := by simp [sp, iN, iK, iV, iR, iS, hr, hz]
            unfold ck
            rw [if_neg (by omega), if_neg (by rw [e2]; decide)]
          rw [e]
          obtain ⟨i, hi⟩ : ∃ i, isL l = i := ⟨_, rfl⟩
          rw [hi]
          obtain ⟨v, hv⟩ : ∃ v, (if 16 < Y.size ∨ 16 < V.size then (3 : Int) else if nb 4 N = false then 5 else if 8 < 0 then 6 else if i = false then 4 else 0) = v := ⟨_, rfl⟩
          rw [hv]
          have HE : Hid _ := hv
          have Hi : Hid _ := hi
          have hm := h.most
          unfold maxLen at hm
          have hh1 : (hs 4).toList.isEmpty = false := by decide +kernel
          have hh2 : ¬ (hs 4).toList = [] := by decide +kernel
          have hgd := guard_id
          have Hr : Hid (r.length = 32) := hr
          have A1 : Hid (At w a 0 l) := h
          have E0 : Hid _ := OAt.new (K := 4) (N := N) (Y := Y) (V := V) (rv := .slice a 0 c) w hr
          generalize hX : (oc 4 N Y V r (.slice a 0 c)).toArray = X at E0 ⊢
          have HK : Hid (Keep (fun _ => False) w (w.alloc (.cells X 27))) := (Keep.refl _ _).alloc _
          obtain ⟨g0, g1, g2, g3, g36⟩ := E0.out.cells
          have Hrr : Hid _ := E0.out.ref
          clear e hX hr h hv hi
          try clear hz
          go_enter Tryd.func18, Tryd.ntmps18
          go_wp2_with (first | (go_at_call 43; refine (has_any _ 4 (by decide)).mono ?_; rintro e w1 ⟨rfl, rfl⟩) | (go_at_call 59; refine (in_any _ 4 _ _ (by decide) (by decide) rfl).mono ?_; rintro e w1 ⟨rfl, rfl⟩) | ((with_reducible refine at_load 24 ?_); refine wl_loadG (by rfl) rfl rfl Hr.out Hrr.out ?_; simp only [Act.put, List.setIfInBounds_toArray, List.set_cons_zero, List.set_cons_succ]) | (go_at_call 60; refine (xis_v _ a 0 c l (A1.out.calm HK.out) (by omega) i Hi.out).mono ?_; rintro e w4 ⟨rfl, k1⟩; have HK : Hid _ := HK.out.trans k1; clear k1))
          all_goals
            go_ret
            refine ⟨?_, HK.out⟩
            have e := HE.out
            unfold nb at e
            repeat' split at e
            all_goals first | (subst e; rfl) | (exfalso; simp_all; done) | (exfalso; simp_all; omega)
        · rcases (by omega : N < -2147483648 ∨ (-2147483648 ≤ N ∧ N < 0) ∨ (0 ≤ N ∧ N < 2147483648) ∨ 2147483648 ≤ N) with hn3 | ⟨hn3, hn4⟩ | ⟨hn3, hn4⟩ | hn3
          · have hq0 : N < 2147483648 := by omega
            have hq1 : N < 0 := by omega
            skip
            have e : ck 4 N Y V r 0 l = (if 16 < Y.size ∨ 16 < V.size then (3 : Int) else if nb 4 N = false then 5 else if 8 < 0 then 6 else if isL l = false then 4 else 0) := by
              have e2 : sp 4 N Y V r 0 = false := by simp [sp, iN, iK, iV, iR, iS, hr, hz]
              unfold ck
              rw [if_neg (by omega), if_neg (by rw [e2]; decide)]
            rw [e]
            obtain ⟨i, hi⟩ : ∃ i, isL l = i := ⟨_, rfl⟩
            rw [hi]
            obtain ⟨v, hv⟩ : ∃ v, (if 16 < Y.size ∨ 16 < V.size then (3 : Int) else if nb 4 N = false then 5 else if 8 < 0 then 6 else if i = false then 4 else 0) = v := ⟨_, rfl⟩
            rw [hv]
            have HE : Hid _ := hv
            have Hi : Hid _ := hi
            have hm := h.most
            unfold maxLen at hm
            have hh1 : (hs 4).toList.isEmpty = false := by decide +kernel
            have hh2 : ¬ (hs 4).toList = [] := by decide +kernel
            have hgd := guard_id
            have Hr : Hid (r.length = 32) := hr
            have A1 : Hid (At w a 0 l) := h
            have E0 : Hid _ := OAt.new (K := 4) (N := N) (Y := Y) (V := V) (rv := .slice a 0 c) w hr
            generalize hX : (oc 4 N Y V r (.slice a 0 c)).toArray = X at E0 ⊢
            have HK : Hid (Keep (fun _ => False) w (w.alloc (.cells X 27))) := (Keep.refl _ _).alloc _
            obtain ⟨g0, g1, g2, g3, g36⟩ := E0.out.cells
            have Hrr : Hid _ := E0.out.ref
            clear e hX hr h hv hi
            try clear hz
            go_enter Tryd.func18, Tryd.ntmps18
            go_wp2_with (first | (go_at_call 43; refine (has_any _ 4 (by decide)).mono ?_; rintro e w1 ⟨rfl, rfl⟩) | (go_at_call 59; refine (in_any _ 4 _ _ (by decide) (by decide) rfl).mono ?_; rintro e w1 ⟨rfl, rfl⟩) | ((with_reducible refine at_load 24 ?_); refine wl_loadG (by rfl) rfl rfl Hr.out Hrr.out ?_; simp only [Act.put, List.setIfInBounds_toArray, List.set_cons_zero, List.set_cons_succ]) | (go_at_call 60; refine (xis_v _ a 0 c l (A1.out.calm HK.out) (by omega) i Hi.out).mono ?_; rintro e w4 ⟨rfl, k1⟩; have HK : Hid _ := HK.out.trans k1; clear k1))
            all_goals
              go_ret
              refine ⟨?_, HK.out⟩
              have e := HE.out
              unfold nb at e
              repeat' split at e
              all_goals first | (subst e; rfl) | (exfalso; simp_all; done) | (exfalso; simp_all; omega)
          · have hq0 : N < 2147483648 := by omega
            skip
            have e : ck 4 N Y V r 0 l = (if 16 < Y.size ∨ 16 < V.size then (3 : Int) else if nb 4 N = false then 5 else if 8 < 0 then 6 else if isL l = false then 4 else 0) := by
              have e2 : sp 4 N Y V r 0 = false := by simp [sp, iN, iK, iV, iR, iS, hr, hz]
              unfold ck
              rw [if_neg (by omega), if_neg (by rw [e2]; decide)]
            rw [e]
            obtain ⟨i, hi⟩ : ∃ i, isL l = i := ⟨_, rfl⟩
            rw [hi]
            obtain ⟨v, hv⟩ : ∃ v, (if 16 < Y.size ∨ 16 < V.size then (3 : Int) else if nb 4 N = false then 5 else if 8 < 0 then 6 else if i = false then 4 else 0) = v := ⟨_, rfl⟩
            rw [hv]
            have HE : Hid _ := hv
            have Hi : Hid _ := hi
            have hm := h.most
            unfold maxLen at hm
            have hh1 : (hs 4).toList.isEmpty = false := by decide +kernel
            have hh2 : ¬ (hs 4).toList = [] := by decide +kernel
            have hgd := guard_id
            have Hr : Hid (r.length = 32) := hr
            have A1 : Hid (At w a 0 l) := h
            have E0 : Hid _ := OAt.new (K := 4) (N := N) (Y := Y) (V := V) (rv := .slice a 0 c) w hr
            generalize hX : (oc 4 N Y V r (.slice a 0 c)).toArray = X at E0 ⊢
            have HK : Hid (Keep (fun _ => False) w (w.alloc (.cells X 27))) := (Keep.refl _ _).alloc _
            obtain ⟨g0, g1, g2, g3, g36⟩ := E0.out.cells
            have Hrr : Hid _ := E0.out.ref
            clear e hX hr h hv hi
            try clear hz
            go_enter Tryd.func18, Tryd.ntmps18
            go_wp2_with (first | (go_at_call 43; refine (has_any _ 4 (by decide)).mono ?_; rintro e w1 ⟨rfl, rfl⟩) | (go_at_call 59; refine (in_any _ 4 _ _ (by decide) (by decide) rfl).mono ?_; rintro e w1 ⟨rfl, rfl⟩) | ((with_reducible refine at_load 24 ?_); refine wl_loadG (by rfl) rfl rfl Hr.out Hrr.out ?_; simp only [Act.put, List.setIfInBounds_toArray, List.set_cons_zero, List.set_cons_succ]) | (go_at_call 60; refine (xis_v _ a 0 c l (A1.out.calm HK.out) (by omega) i Hi.out).mono ?_; rintro e w4 ⟨rfl, k1⟩; have HK : Hid _ := HK.out.trans k1; clear k1))
            all_goals
              go_ret
              refine ⟨?_, HK.out⟩
              have e := HE.out
              unfold nb at e
              repeat' split at e
              all_goals first | (subst e; rfl) | (exfalso; simp_all; done) | (exfalso; simp_all; omega)
          · have hq0 : -2147483648 ≤ N := by omega
            skip
            have e : ck 4 N Y V r 0 l = (if 16 < Y.size ∨ 16 < V.size then (3 : Int) else if nb 4 N = false then 5 else if 8 < 0 then 6 else if isL l = false then 4 else 0) := by
              have e2 : sp 4 N Y V r 0 = false := by simp [sp, iN, iK, iV, iR, iS, hr, hz]
              unfold ck
              rw [if_neg (by omega), if_neg (by rw [e2]; decide)]
            rw [e]
            obtain ⟨i, hi⟩ : ∃ i, isL l = i := ⟨_, rfl⟩
            rw [hi]
            obtain ⟨v, hv⟩ : ∃ v, (if 16 < Y.size ∨ 16 < V.size then (3 : Int) else if nb 4 N = false then 5 else if 8 < 0 then 6 else if i = false then 4 else 0) = v := ⟨_, rfl⟩
            rw [hv]
            have HE : Hid _ := hv
            have Hi : Hid _ := hi
            have hm := h.most
            unfold maxLen at hm
            have hh1 : (hs 4).toList.isEmpty = false := by decide +kernel
            have hh2 : ¬ (hs 4).toList = [] := by decide +kernel
            have hgd := guard_id
            have Hr : Hid (r.length = 32) := hr
            have A1 : Hid (At w a 0 l) := h
            have E0 : Hid _ := OAt.new (K := 4) (N := N) (Y := Y) (V := V) (rv := .slice a 0 c) w hr
            generalize hX : (oc 4 N Y V r (.slice a 0 c)).toArray = X at E0 ⊢
            have HK : Hid (Keep (fun _ => False) w (w.alloc (.cells X 27))) := (Keep.refl _ _).alloc _
            obtain ⟨g0, g1, g2, g3, g36⟩ := E0.out.cells
            have Hrr : Hid _ := E0.out.ref
            clear e hX hr h hv hi
            try clear hz
            go_enter Tryd.func18, Tryd.ntmps18
            go_wp2_with (first | (go_at_call 43; refine (has_any _ 4 (by decide)).mono ?_; rintro e w1 ⟨rfl, rfl⟩) | (go_at_call 59; refine (in_any _ 4 _ _ (by decide) (by decide) rfl).mono ?_; rintro e w1 ⟨rfl, rfl⟩) | ((with_reducible refine at_load 24 ?_); refine wl_loadG (by rfl) rfl rfl Hr.out Hrr.out ?_; simp only [Act.put, List.setIfInBounds_toArray, List.set_cons_zero, List.set_cons_succ]) | (go_at_call 60; refine (xis_v _ a 0 c l (A1.out.calm HK.out) (by omega) i Hi.out).mono ?_; rintro e w4 ⟨rfl, k1⟩; have HK : Hid _ := HK.out.trans k1; clear k1))
            all_goals
              go_ret
              refine ⟨?_, HK.out⟩
              have e := HE.out
              unfold nb at e
              repeat' split at e
              all_goals first | (subst e; rfl) | (exfalso; simp_all; done) | (exfalso; simp_all; omega)
          · have hq0 : 0 ≤ N := by omega
            have hq1 : -2147483648 ≤ N := by omega
            skip
            have e : ck 4 N Y V r 0 l = (if 16 < Y.size ∨ 16 < V.size then (3 : Int) else if nb 4 N = false then 5 else if 8 < 0 then 6 else if isL l = false then 4 else 0) := by
              have e2 : sp 4 N Y V r 0 = false := by simp [sp, iN, iK, iV, iR, iS, hr, hz]
              unfold ck
              rw [if_neg (by omega), if_neg (by rw [e2]; decide)]
            rw [e]
            obtain ⟨i, hi⟩ : ∃ i, isL l = i := ⟨_, rfl⟩
            rw [hi]
            obtain ⟨v, hv⟩ : ∃ v, (if 16 < Y.size ∨ 16 < V.size then (3 : Int) else if nb 4 N = false then 5 else if 8 < 0 then 6 else if i = false then 4 else 0) = v := ⟨_, rfl⟩
            rw [hv]
            have HE : Hid _ := hv
            have Hi : Hid _ := hi
            have hm := h.most
            unfold maxLen at hm
            have hh1 : (hs 4).toList.isEmpty = false := by decide +kernel
            have hh2 : ¬ (hs 4).toList = [] := by decide +kernel
            have hgd := guard_id
            have Hr : Hid (r.length = 32) := hr
            have A1 : Hid (At w a 0 l) := h
            have E0 : Hid _ := OAt.new (K := 4) (N := N) (Y := Y) (V := V) (rv := .slice a 0 c) w hr
            generalize hX : (oc 4 N Y V r (.slice a 0 c)).toArray = X at E0 ⊢
            have HK : Hid (Keep (fun _ => False) w (w.alloc (.cells X 27))) := (Keep.refl _ _).alloc _
            obtain ⟨g0, g1, g2, g3, g36⟩ := E0.out.cells
            have Hrr : Hid _ := E0.out.ref
            clear e hX hr h hv hi
            try clear hz
            go_enter Tryd.func18, Tryd.ntmps18
            go_wp2_with (first | (go_at_call 43; refine (has_any _ 4 (by decide)).mono ?_; rintro e w1 ⟨rfl, rfl⟩) | (go_at_call 59; refine (in_any _ 4 _ _ (by decide) (by decide) rfl).mono ?_; rintro e w1 ⟨rfl, rfl⟩) | ((with_reducible refine at_load 24 ?_); refine wl_loadG (by rfl) rfl rfl Hr.out Hrr.out ?_; simp only [Act.put, List.setIfInBounds_toArray, List.set_cons_zero, List.set_cons_succ]) | (go_at_call 60; refine (xis_v _ a 0 c l (A1.out.calm HK.out) (by omega) i Hi.out).mono ?_; rintro e w4 ⟨rfl, k1⟩; have HK : Hid _ := HK.out.trans k1; clear k1))
            all_goals
              go_ret
              refine ⟨?_, HK.out⟩
              have e := HE.out
              unfold nb at e
              repeat' split at e
              all_goals first | (subst e; rfl) | (exfalso; simp_all; done) | (exfalso; simp_all; omega)
    · have hs1 : 0 < n := by omega
      skip
      have e : ck 4 N Y V r n l = 4 := by
        have e2 : sp 4 N Y V r n = true := by simp [sp, iN, iK, iV, iR, iS, hr, hz, hs1, hsn]
        unfold ck
        rw [if_neg (by omega), if_pos e2]
      rw [e]
      have hh1 : (hs 4).toList.isEmpty = false := by decide +kernel
      have hh2 : ¬ (hs 4).toList = [] := by decide +kernel
      have hgd := guard_id
      have Hr : Hid (r.length = 32) := hr
      have A1 : Hid (At w a n l) := h
      have E0 : Hid _ := OAt.new (K := 4) (N := N) (Y := Y) (V := V) (rv := .slice a n c) w hr
      generalize hX : (oc 4 N Y V r (.slice a n c)).toArray = X at E0 ⊢
      have HK : Hid (Keep (fun _ => False) w (w.alloc (.cells X 27))) := (Keep.refl _ _).alloc _
      obtain ⟨g0, g1, g2, g3, g36⟩ := E0.out.cells
      have Hrr : Hid _ := E0.out.ref
      clear e hX hr h
      try clear hz
      go_enter Tryd.func18, Tryd.ntmps18
      go_wp2_with (first | (go_at_call 43; refine (has_any _ 4 (by decide)).mono ?_; rintro e w1 ⟨rfl, rfl⟩) | (go_at_call 59; refine (in_any _ 4 _ _ (by decide) (by decide) rfl).mono ?_; rintro e w1 ⟨rfl, rfl⟩) | ((with_reducible refine at_load 24 ?_); refine wl_loadG (by rfl) rfl rfl Hr.out Hrr.out ?_; simp only [Act.put, List.setIfInBounds_toArray, List.set_cons_zero, List.set_cons_succ]))
      go_ret
      exact ⟨rfl, HK.out⟩
  · have hcmp := neq_z r hr _ (ne_zt hz)
    skip
    have e : ck 4 N Y V r n l = 4 := by
      have e2 : sp 4 N Y V r n = true := by simp [sp, iN, iK, iV, iR, iS, hr, hz]
      unfold ck
      rw [if_neg (by omega), if_pos e2]
    rw [e]
    have hh1 : (hs 4).toList.isEmpty = false := by decide +kernel
    have hh2 : ¬ (hs 4).toList = [] := by decide +kernel
    have hgd := guard_id
    have Hr : Hid (r.length = 32) := hr
    have A1 : Hid (At w a n l) := h
    have E0 : Hid _ := OAt.new (K := 4) (N := N) (Y := Y) (V := V) (rv := .slice a n c) w hr
    generalize hX : (oc 4 N Y V r (.slice a n c)).toArray = X at E0 ⊢
    have HK : Hid (Keep (fun _ => False) w (w.alloc (.cells X 27))) := (Keep.refl _ _).alloc _
    obtain ⟨g0, g1, g2, g3, g36⟩ := E0.out.cells
    have Hrr : Hid _ := E0.out.ref
    clear e hX hr h
    try clear hz
    go_enter Tryd.func18, Tryd.ntmps18
    go_wp2_with (first | (go_at_call 43; refine (has_any _ 4 (by decide)).mono ?_; rintro e w1 ⟨rfl, rfl⟩) | (go_at_call 59; refine (in_any _ 4 _ _ (by decide) (by decide) rfl).mono ?_; rintro e w1 ⟨rfl, rfl⟩) | ((with_reducible refine at_load 24 ?_); refine wl_loadG (by rfl) rfl rfl Hr.out Hrr.out ?_; simp only [Act.put, List.setIfInBounds_toArray, List.set_cons_zero, List.set_cons_succ]))
    go_ret
    exact ⟨rfl, HK.out⟩
end Ox
end Go.Proofs.YtfoplimdbapdfaaDoor
