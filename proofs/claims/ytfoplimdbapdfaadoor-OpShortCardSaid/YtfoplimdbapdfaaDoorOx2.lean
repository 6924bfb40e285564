/-
  op.spare: is something not zero that its kind has not?
-/
import Derived.Test.YtfoplimdbapdfaaDoorOx1
set_option linter.unusedVariables false
set_option linter.unusedSimpArgs false
namespace Go.Proofs.YtfoplimdbapdfaaDoor
open Go.RowKit
namespace Ox
open Oct Ids

set_option maxRecDepth 100000 in
set_option maxHeartbeats 1000000 in
theorem spare_1 (w : World) (hT : TabP w) (N : Int) (Y V : ByteArray) (r : List UInt8) (a : Option Addr) (n c : Nat) (hr : r.length = 32) :
    Calls Tryd.prog 56 #[.agg (oc 1 N Y V r (.slice a n c)).toArray] w fun e w' => e = .returned (.bool (sp 1 N Y V r n)) ∧ Keep (fun _ => False) w w' := by
  by_cases hy : Y.size = 0
  · obtain rfl := empty_of hy
    by_cases hv : V.size = 0
    · obtain rfl := empty_of hv
      by_cases hz : r = Z32
      · have hcmp := neq_z r hr _ (ne_zf hz)
        by_cases hs : n = 0
        · subst hs
          skip
          have e : sp 1 N ByteArray.empty ByteArray.empty r 0 = false := by simp [sp, iN, iK, iV, iR, iS, hr, hy, hv, hz]
          rw [e]
          have Hc : Hid _ := hr
          have HT : Hid (TabP w) := hT
          have hgd := guard_id
          have E0 : Hid _ := OAt.new (K := 1) (N := N) (Y := ByteArray.empty) (V := ByteArray.empty) (rv := .slice a 0 c) w hr
          generalize hX : (oc 1 N ByteArray.empty ByteArray.empty r (.slice a 0 c)).toArray = X at E0 ⊢
          obtain ⟨g0, g1, g2, g3, g36⟩ := E0.out.cells
          have Hr : Hid _ := E0.out.ref
          clear e hX hr hT
          try clear hz
          go_enter Tryd.func56, Tryd.ntmps56
          go_wp2_with (first | (go_at_call 39; refine (of_any _ (HT.out.calm ((Keep.refl _ _).alloc _)) 1).mono ?_; rw [show pk 1 = 1 from rfl]; rintro e w1 ⟨rfl, rfl⟩) | (refine wl_loadG (by rfl) rfl rfl Hc.out Hr.out ?_; simp only [Act.put, List.setIfInBounds_toArray, List.set_cons_zero, List.set_cons_succ]))
          go_ret
          exact ⟨rfl, (Keep.refl _ _).alloc _⟩
        · have hs1 : 0 < n := by omega
          skip
          have e : sp 1 N ByteArray.empty ByteArray.empty r n = true := by simp [sp, iN, iK, iV, iR, iS, hr, hy, hv, hz, hs1, hs]
          rw [e]
          have Hc : Hid _ := hr
          have HT : Hid (TabP w) := hT
          have hgd := guard_id
          have E0 : Hid _ := OAt.new (K := 1) (N := N) (Y := ByteArray.empty) (V := ByteArray.empty) (rv := .slice a n c) w hr
          generalize hX : (oc 1 N ByteArray.empty ByteArray.empty r (.slice a n c)).toArray = X at E0 ⊢
          obtain ⟨g0, g1, g2, g3, g36⟩ := E0.out.cells
          have Hr : Hid _ := E0.out.ref
          clear e hX hr hT
          try clear hz
          go_enter Tryd.func56, Tryd.ntmps56
          go_wp2_with (first | (go_at_call 39; refine (of_any _ (HT.out.calm ((Keep.refl _ _).alloc _)) 1).mono ?_; rw [show pk 1 = 1 from rfl]; rintro e w1 ⟨rfl, rfl⟩) | (refine wl_loadG (by rfl) rfl rfl Hc.out Hr.out ?_; simp only [Act.put, List.setIfInBounds_toArray, List.set_cons_zero, List.set_cons_succ]))
          go_ret
          exact ⟨rfl, (Keep.refl _ _).alloc _⟩
      · have hcmp := neq_z r hr _ (ne_zt hz)
        skip
        have e : sp 1 N ByteArray.empty ByteArray.empty r n = true := by simp [sp, iN, iK, iV, iR, iS, hr, hy, hv, hz]
        rw [e]
        have Hc : Hid _ := hr
        have HT : Hid (TabP w) := hT
        have hgd := guard_id
        have E0 : Hid _ := OAt.new (K := 1) (N := N) (Y := ByteArray.empty) (V := ByteArray.empty) (rv := .slice a n c) w hr
        generalize hX : (oc 1 N ByteArray.empty ByteArray.empty r (.slice a n c)).toArray = X at E0 ⊢
        obtain ⟨g0, g1, g2, g3, g36⟩ := E0.out.cells
        have Hr : Hid _ := E0.out.ref
        clear e hX hr hT
        try clear hz
        go_enter Tryd.func56, Tryd.ntmps56
        go_wp2_with (first | (go_at_call 39; refine (of_any _ (HT.out.calm ((Keep.refl _ _).alloc _)) 1).mono ?_; rw [show pk 1 = 1 from rfl]; rintro e w1 ⟨rfl, rfl⟩) | (refine wl_loadG (by rfl) rfl rfl Hc.out Hr.out ?_; simp only [Act.put, List.setIfInBounds_toArray, List.set_cons_zero, List.set_cons_succ]))
        go_ret
        exact ⟨rfl, (Keep.refl _ _).alloc _⟩
    · have hv1 := list_ne hv
      have hv2 := list_ne2 hv
      skip
      have e : sp 1 N ByteArray.empty V r n = true := by simp [sp, iN, iK, iV, iR, iS, hr, hy, hv]
      rw [e]
      have Hc : Hid _ := hr
      have HT : Hid (TabP w) := hT
      have hgd := guard_id
      have E0 : Hid _ := OAt.new (K := 1) (N := N) (Y := ByteArray.empty) (V := V) (rv := .slice a n c) w hr
      generalize hX : (oc 1 N ByteArray.empty V r (.slice a n c)).toArray = X at E0 ⊢
      obtain ⟨g0, g1, g2, g3, g36⟩ := E0.out.cells
      have Hr : Hid _ := E0.out.ref
      clear e hX hr hT
      try clear hz
      go_enter Tryd.func56, Tryd.ntmps56
      go_wp2_with (first | (go_at_call 39; refine (of_any _ (HT.out.calm ((Keep.refl _ _).alloc _)) 1).mono ?_; rw [show pk 1 = 1 from rfl]; rintro e w1 ⟨rfl, rfl⟩) | (refine wl_loadG (by rfl) rfl rfl Hc.out Hr.out ?_; simp only [Act.put, List.setIfInBounds_toArray, List.set_cons_zero, List.set_cons_succ]))
      go_ret
      exact ⟨rfl, (Keep.refl _ _).alloc _⟩
  · have hy1 := list_ne hy
    have hy2 := list_ne2 hy
    skip
    have e : sp 1 N Y V r n = true := by simp [sp, iN, iK, iV, iR, iS, hr, hy]
    rw [e]
    have Hc : Hid _ := hr
    have HT : Hid (TabP w) := hT
    have hgd := guard_id
    have E0 : Hid _ := OAt.new (K := 1) (N := N) (Y := Y) (V := V) (rv := .slice a n c) w hr
    generalize hX : (oc 1 N Y V r (.slice a n c)).toArray = X at E0 ⊢
    obtain ⟨g0, g1, g2, g3, g36⟩ := E0.out.cells
    have Hr : Hid _ := E0.out.ref
    clear e hX hr hT
    try clear hz
    go_enter Tryd.func56, Tryd.ntmps56
    go_wp2_with (first | (go_at_call 39; refine (of_any _ (HT.out.calm ((Keep.refl _ _).alloc _)) 1).mono ?_; rw [show pk 1 = 1 from rfl]; rintro e w1 ⟨rfl, rfl⟩) | (refine wl_loadG (by rfl) rfl rfl Hc.out Hr.out ?_; simp only [Act.put, List.setIfInBounds_toArray, List.set_cons_zero, List.set_cons_succ]))
    go_ret
    exact ⟨rfl, (Keep.refl _ _).alloc _⟩
set_option maxRecDepth 100000 in
set_option maxHeartbeats 1000000 in
theorem spare_2 (w : World) (hT : TabP w) (N : Int) (Y V : ByteArray) (r : List UInt8) (a : Option Addr) (n c : Nat) (hr : r.length = 32) :
    Calls Tryd.prog 56 #[.agg (oc 2 N Y V r (.slice a n c)).toArray] w fun e w' => e = .returned (.bool (sp 2 N Y V r n)) ∧ Keep (fun _ => False) w w' := by
  by_cases hn : N = 0
  · subst hn
    by_cases hy : Y.size = 0
    · obtain rfl := empty_of hy
      by_cases hz : r = Z32
      · have hcmp := neq_z r hr _ (ne_zf hz)
        by_cases hs : n = 0
        · subst hs
          skip
          have e : sp 2 0 ByteArray.empty V r 0 = false := by simp [sp, iN, iK, iV, iR, iS, hr, hy, hz]
          rw [e]
          have Hc : Hid _ := hr
          have HT : Hid (TabP w) := hT
          have hgd := guard_id
          have E0 : Hid _ := OAt.new (K := 2) (N := 0) (Y := ByteArray.empty) (V := V) (rv := .slice a 0 c) w hr
          generalize hX : (oc 2 0 ByteArray.empty V r (.slice a 0 c)).toArray = X at E0 ⊢
          obtain ⟨g0, g1, g2, g3, g36⟩ := E0.out.cells
          have Hr : Hid _ := E0.out.ref
          clear e hX hr hT
          try clear hz
          go_enter Tryd.func56, Tryd.ntmps56
          go_wp2_with (first | (go_at_call 39; refine (of_any _ (HT.out.calm ((Keep.refl _ _).alloc _)) 2).mono ?_; rw [show pk 2 = 4 from rfl]; rintro e w1 ⟨rfl, rfl⟩) | (refine wl_loadG (by rfl) rfl rfl Hc.out Hr.out ?_; simp only [Act.put, List.setIfInBounds_toArray, List.set_cons_zero, List.set_cons_succ]))
          go_ret
          exact ⟨rfl, (Keep.refl _ _).alloc _⟩
        · have hs1 : 0 < n := by omega
          skip
          have e : sp 2 0 ByteArray.empty V r n = true := by simp [sp, iN, iK, iV, iR, iS, hr, hy, hz, hs1, hs]
          rw [e]
          have Hc : Hid _ := hr
          have HT : Hid (TabP w) := hT
          have hgd := guard_id
          have E0 : Hid _ := OAt.new (K := 2) (N := 0) (Y := ByteArray.empty) (V := V) (rv := .slice a n c) w hr
          generalize hX : (oc 2 0 ByteArray.empty V r (.slice a n c)).toArray = X at E0 ⊢
          obtain ⟨g0, g1, g2, g3, g36⟩ := E0.out.cells
          have Hr : Hid _ := E0.out.ref
          clear e hX hr hT
          try clear hz
          go_enter Tryd.func56, Tryd.ntmps56
          go_wp2_with (first | (go_at_call 39; refine (of_any _ (HT.out.calm ((Keep.refl _ _).alloc _)) 2).mono ?_; rw [show pk 2 = 4 from rfl]; rintro e w1 ⟨rfl, rfl⟩) | (refine wl_loadG (by rfl) rfl rfl Hc.out Hr.out ?_; simp only [Act.put, List.setIfInBounds_toArray, List.set_cons_zero, List.set_cons_succ]))
          go_ret
          exact ⟨rfl, (Keep.refl _ _).alloc _⟩
      · have hcmp := neq_z r hr _ (ne_zt hz)
        skip
        have e : sp 2 0 ByteArray.empty V r n = true := by simp [sp, iN, iK, iV, iR, iS, hr, hy, hz]
        rw [e]
        have Hc : Hid _ := hr
        have HT : Hid (TabP w) := hT
        have hgd := guard_id
        have E0 : Hid _ := OAt.new (K := 2) (N := 0) (Y := ByteArray.empty) (V := V) (rv := .slice a n c) w hr
        generalize hX : (oc 2 0 ByteArray.empty V r (.slice a n c)).toArray = X at E0 ⊢
        obtain ⟨g0, g1, g2, g3, g36⟩ := E0.out.cells
        have Hr : Hid _ := E0.out.ref
        clear e hX hr hT
        try clear hz
        go_enter Tryd.func56, Tryd.ntmps56
        go_wp2_with (first | (go_at_call 39; refine (of_any _ (HT.out.calm ((Keep.refl _ _).alloc _)) 2).mono ?_; rw [show pk 2 = 4 from rfl]; rintro e w1 ⟨rfl, rfl⟩) | (refine wl_loadG (by rfl) rfl rfl Hc.out Hr.out ?_; simp only [Act.put, List.setIfInBounds_toArray, List.set_cons_zero, List.set_cons_succ]))
        go_ret
        exact ⟨rfl, (Keep.refl _ _).alloc _⟩
    · have hy1 := list_ne hy
      have hy2 := list_ne2 hy
      skip
      have e : sp 2 0 Y V r n = true := by simp [sp, iN, iK, iV, iR, iS, hr, hy]
      rw [e]
      have Hc : Hid _ := hr
      have HT : Hid (TabP w) := hT
      have hgd := guard_id
      have E0 : Hid _ := OAt.new (K := 2) (N := 0) (Y := Y) (V := V) (rv := .slice a n c) w hr
      generalize hX : (oc 2 0 Y V r (.slice a n c)).toArray = X at E0 ⊢
      obtain ⟨g0, g1, g2, g3, g36⟩ := E0.out.cells
      have Hr : Hid _ := E0.out.ref
      clear e hX hr hT
      try clear hz
      go_enter Tryd.func56, Tryd.ntmps56
      go_wp2_with (first | (go_at_call 39; refine (of_any _ (HT.out.calm ((Keep.refl _ _).alloc _)) 2).mono ?_; rw [show pk 2 = 4 from rfl]; rintro e w1 ⟨rfl, rfl⟩) | (refine wl_loadG (by rfl) rfl rfl Hc.out Hr.out ?_; simp only [Act.put, List.setIfInBounds_toArray, List.set_cons_zero, List.set_cons_succ]))
      go_ret
      exact ⟨rfl, (Keep.refl _ _).alloc _⟩
  · have hn1 : (N == 0) = false := by simpa using hn
    have hn2 : (N != 0) = true := by simpa using hn
    skip
    have e : sp 2 N Y V r n = true := by simp [sp, iN, iK, iV, iR, iS, hr, hn]
    rw [e]
    have Hc : Hid _ := hr
    have HT : Hid (TabP w) := hT
    have hgd := guard_id
    have E0 : Hid _ := OAt.new (K := 2) (N := N) (Y := Y) (V := V) (rv := .slice a n c) w hr
    generalize hX : (oc 2 N Y V r (.slice a n c)).toArray = X at E0 ⊢
    obtain ⟨g0, g1, g2, g3, g36⟩ := E0.out.cells
    have Hr : Hid _ := E0.out.ref
    clear e hX hr hT
    try clear hz
    go_enter Tryd.func56, Tryd.ntmps56
    go_wp2_with (first | (go_at_call 39; refine (of_any _ (HT.out.calm ((Keep.refl _ _).alloc _)) 2).mono ?_; rw [show pk 2 = 4 from rfl]; rintro e w1 ⟨rfl, rfl⟩) | (refine wl_loadG (by rfl) rfl rfl Hc.out Hr.out ?_; simp only [Act.put, List.setIfInBounds_toArray, List.set_cons_zero, List.set_cons_succ]))
    go_ret
    exact ⟨rfl, (Keep.refl _ _).alloc _⟩
set_option maxRecDepth 100000 in
set_option maxHeartbeats 1000000 in
theorem spare_3 (w : World) (hT : TabP w) (N : Int) (Y V : ByteArray) (r : List UInt8) (a : Option Addr) (n c : Nat) (hr : r.length = 32) :
    Calls Tryd.prog 56 #[.agg (oc 3 N Y V r (.slice a n c)).toArray] w fun e w' => e = .returned (.bool (sp 3 N Y V r n)) ∧ Keep (fun _ => False) w w' := by
  by_cases hn : N = 0
  · subst hn
    by_cases hy : Y.size = 0
    · obtain rfl := empty_of hy
      by_cases hz : r = Z32
      · have hcmp := neq_z r hr _ (ne_zf hz)
        skip
        have e : sp 3 0 ByteArray.empty V r n = false := by simp [sp, iN, iK, iV, iR, iS, hr, hy, hz]
        rw [e]
        have Hc : Hid _ := hr
        have HT : Hid (TabP w) := hT
        have hgd := guard_id
        have E0 : Hid _ := OAt.new (K := 3) (N := 0) (Y := ByteArray.empty) (V := V) (rv := .slice a n c) w hr
        generalize hX : (oc 3 0 ByteArray.empty V r (.slice a n c)).toArray = X at E0 ⊢
        obtain ⟨g0, g1, g2, g3, g36⟩ := E0.out.cells
        have Hr : Hid _ := E0.out.ref
        clear e hX hr hT
        try clear hz
        go_enter Tryd.func56, Tryd.ntmps56
        go_wp2_with (first | (go_at_call 39; refine (of_any _ (HT.out.calm ((Keep.refl _ _).alloc _)) 3).mono ?_; rw [show pk 3 = 20 from rfl]; rintro e w1 ⟨rfl, rfl⟩) | (refine wl_loadG (by rfl) rfl rfl Hc.out Hr.out ?_; simp only [Act.put, List.setIfInBounds_toArray, List.set_cons_zero, List.set_cons_succ]))
        go_ret
        exact ⟨rfl, (Keep.refl _ _).alloc _⟩
      · have hcmp := neq_z r hr _ (ne_zt hz)
        skip
        have e : sp 3 0 ByteArray.empty V r n = true := by simp [sp, iN, iK, iV, iR, iS, hr, hy, hz]
        rw [e]
        have Hc : Hid _ := hr
        have HT : Hid (TabP w) := hT
        have hgd := guard_id
        have E0 : Hid _ := OAt.new (K := 3) (N := 0) (Y := ByteArray.empty) (V := V) (rv := .slice a n c) w hr
        generalize hX : (oc 3 0 ByteArray.empty V r (.slice a n c)).toArray = X at E0 ⊢
        obtain ⟨g0, g1, g2, g3, g36⟩ := E0.out.cells
        have Hr : Hid _ := E0.out.ref
        clear e hX hr hT
        try clear hz
        go_enter Tryd.func56, Tryd.ntmps56
        go_wp2_with (first | (go_at_call 39; refine (of_any _ (HT.out.calm ((Keep.refl _ _).alloc _)) 3).mono ?_; rw [show pk 3 = 20 from rfl]; rintro e w1 ⟨rfl, rfl⟩) | (refine wl_loadG (by rfl) rfl rfl Hc.out Hr.out ?_; simp only [Act.put, List.setIfInBounds_toArray, List.set_cons_zero, List.set_cons_succ]))
        go_ret
        exact ⟨rfl, (Keep.refl _ _).alloc _⟩
    · have hy1 := list_ne hy
      have hy2 := list_ne2 hy
      skip
      have e : sp 3 0 Y V r n = true := by simp [sp, iN, iK, iV, iR, iS, hr, hy]
      rw [e]
      have Hc : Hid _ := hr
      have HT : Hid (TabP w) := hT
      have hgd := guard_id
      have E0 : Hid _ := OAt.new (K := 3) (N := 0) (Y := Y) (V := V) (rv := .slice a n c) w hr
      generalize hX : (oc 3 0 Y V r (.slice a n c)).toArray = X at E0 ⊢
      obtain ⟨g0, g1, g2, g3, g36⟩ := E0.out.cells
      have Hr : Hid _ := E0.out.ref
      clear e hX hr hT
      try clear hz
      go_enter Tryd.func56, Tryd.ntmps56
      go_wp2_with (first | (go_at_call 39; refine (of_any _ (HT.out.calm ((Keep.refl _ _).alloc _)) 3).mono ?_; rw [show pk 3 = 20 from rfl]; rintro e w1 ⟨rfl, rfl⟩) | (refine wl_loadG (by rfl) rfl rfl Hc.out Hr.out ?_; simp only [Act.put, List.setIfInBounds_toArray, List.set_cons_zero, List.set_cons_succ]))
      go_ret
      exact ⟨rfl, (Keep.refl _ _).alloc _⟩
  · have hn1 : (N == 0) = false := by simpa using hn
    have hn2 : (N != 0) = true := by simpa using hn
    skip
    have e : sp 3 N Y V r n = true := by simp [sp, iN, iK, iV, iR, iS, hr, hn]
    rw [e]
    have Hc : Hid _ := hr
    have HT : Hid (TabP w) := hT
    have hgd := guard_id
    have E0 : Hid _ := OAt.new (K := 3) (N := N) (Y := Y) (V := V) (rv := .slice a n c) w hr
    generalize hX : (oc 3 N Y V r (.slice a n c)).toArray = X at E0 ⊢
    obtain ⟨g0, g1, g2, g3, g36⟩ := E0.out.cells
    have Hr : Hid _ := E0.out.ref
    clear e hX hr hT
    try clear hz
    go_enter Tryd.func56, Tryd.ntmps56
    go_wp2_with (first | (go_at_call 39; refine (of_any _ (HT.out.calm ((Keep.refl _ _).alloc _)) 3).mono ?_; rw [show pk 3 = 20 from rfl]; rintro e w1 ⟨rfl, rfl⟩) | (refine wl_loadG (by rfl) rfl rfl Hc.out Hr.out ?_; simp only [Act.put, List.setIfInBounds_toArray, List.set_cons_zero, List.set_cons_succ]))
    go_ret
    exact ⟨rfl, (Keep.refl _ _).alloc _⟩
set_option maxRecDepth 100000 in
set_option maxHeartbeats 1000000 in
theorem spare_4 (w : World) (hT : TabP w) (N : Int) (Y V : ByteArray) (r : List UInt8) (a : Option Addr) (n c : Nat) (hr : r.length = 32) :
    Calls Tryd.prog 56 #[.agg (oc 4 N Y V r (.slice a n c)).toArray] w fun e w' => e = .returned (.bool (sp 4 N Y V r n)) ∧ Keep (fun _ => False) w w' := by
  by_cases hz : r = Z32
  · have hcmp := neq_z r hr _ (ne_zf hz)
    by_cases hs : n = 0
    · subst hs
      skip
      have e : sp 4 N Y V r 0 = false := by simp [sp, iN, iK, iV, iR, iS, hr, hz]
      rw [e]
      have Hc : Hid _ := hr
      have HT : Hid (TabP w) := hT
      have hgd := guard_id
      have E0 : Hid _ := OAt.new (K := 4) (N := N) (Y := Y) (V := V) (rv := .slice a 0 c) w hr
      generalize hX : (oc 4 N Y V r (.slice a 0 c)).toArray = X at E0 ⊢
      obtain ⟨g0, g1, g2, g3, g36⟩ := E0.out.cells
      have Hr : Hid _ := E0.out.ref
      clear e hX hr hT
      try clear hz
      go_enter Tryd.func56, Tryd.ntmps56
      go_wp2_with (first | (go_at_call 39; refine (of_any _ (HT.out.calm ((Keep.refl _ _).alloc _)) 4).mono ?_; rw [show pk 4 = 7 from rfl]; rintro e w1 ⟨rfl, rfl⟩) | (refine wl_loadG (by rfl) rfl rfl Hc.out Hr.out ?_; simp only [Act.put, List.setIfInBounds_toArray, List.set_cons_zero, List.set_cons_succ]))
      go_ret
      exact ⟨rfl, (Keep.refl _ _).alloc _⟩
    · have hs1 : 0 < n := by omega
      skip
      have e : sp 4 N Y V r n = true := by simp [sp, iN, iK, iV, iR, iS, hr, hz, hs1, hs]
      rw [e]
      have Hc : Hid _ := hr
      have HT : Hid (TabP w) := hT
      have hgd := guard_id
      have E0 : Hid _ := OAt.new (K := 4) (N := N) (Y := Y) (V := V) (rv := .slice a n c) w hr
      generalize hX : (oc 4 N Y V r (.slice a n c)).toArray = X at E0 ⊢
      obtain ⟨g0, g1, g2, g3, g36⟩ := E0.out.cells
      have Hr : Hid _ := E0.out.ref
      clear e hX hr hT
      try clear hz
      go_enter Tryd.func56, Tryd.ntmps56
      go_wp2_with (first | (go_at_call 39; refine (of_any _ (HT.out.calm ((Keep.refl _ _).alloc _)) 4).mono ?_; rw [show pk 4 = 7 from rfl]; rintro e w1 ⟨rfl, rfl⟩) | (refine wl_loadG (by rfl) rfl rfl Hc.out Hr.out ?_; simp only [Act.put, List.setIfInBounds_toArray, List.set_cons_zero, List.set_cons_succ]))
      go_ret
      exact ⟨rfl, (Keep.refl _ _).alloc _⟩
  · have hcmp := neq_z r hr _ (ne_zt hz)
    skip
    have e : sp 4 N Y V r n = true := by simp [sp, iN, iK, iV, iR, iS, hr, hz]
    rw [e]
    have Hc : Hid _ := hr
    have HT : Hid (TabP w) := hT
    have hgd := guard_id
    have E0 : Hid _ := OAt.new (K := 4) (N := N) (Y := Y) (V := V) (rv := .slice a n c) w hr
    generalize hX : (oc 4 N Y V r (.slice a n c)).toArray = X at E0 ⊢
    obtain ⟨g0, g1, g2, g3, g36⟩ := E0.out.cells
    have Hr : Hid _ := E0.out.ref
    clear e hX hr hT
    try clear hz
    go_enter Tryd.func56, Tryd.ntmps56
    go_wp2_with (first | (go_at_call 39; refine (of_any _ (HT.out.calm ((Keep.refl _ _).alloc _)) 4).mono ?_; rw [show pk 4 = 7 from rfl]; rintro e w1 ⟨rfl, rfl⟩) | (refine wl_loadG (by rfl) rfl rfl Hc.out Hr.out ?_; simp only [Act.put, List.setIfInBounds_toArray, List.set_cons_zero, List.set_cons_succ]))
    go_ret
    exact ⟨rfl, (Keep.refl _ _).alloc _⟩
set_option maxRecDepth 100000 in
set_option maxHeartbeats 1000000 in
theorem spare_5 (w : World) (hT : TabP w) (N : Int) (Y V : ByteArray) (r : List UInt8) (a : Option Addr) (n c : Nat) (hr : r.length = 32) :
    Calls Tryd.prog 56 #[.agg (oc 5 N Y V r (.slice a n c)).toArray] w fun e w' => e = .returned (.bool (sp 5 N Y V r n)) ∧ Keep (fun _ => False) w w' := by
  by_cases hn : N = 0
  · subst hn
    by_cases hz : r = Z32
    · have hcmp := neq_z r hr _ (ne_zf hz)
      skip
      have e : sp 5 0 Y V r n = false := by simp [sp, iN, iK, iV, iR, iS, hr, hz]
      rw [e]
      have Hc : Hid _ := hr
      have HT : Hid (TabP w) := hT
      have hgd := guard_id
      have E0 : Hid _ := OAt.new (K := 5) (N := 0) (Y := Y) (V := V) (rv := .slice a n c) w hr
      generalize hX : (oc 5 0 Y V r (.slice a n c)).toArray = X at E0 ⊢
      obtain ⟨g0, g1, g2, g3, g36⟩ := E0.out.cells
      have Hr : Hid _ := E0.out.ref
      clear e hX hr hT
      try clear hz
      go_enter Tryd.func56, Tryd.ntmps56
      go_wp2_with (first | (go_at_call 39; refine (of_any _ (HT.out.calm ((Keep.refl _ _).alloc _)) 5).mono ?_; rw [show pk 5 = 22 from rfl]; rintro e w1 ⟨rfl, rfl⟩) | (refine wl_loadG (by rfl) rfl rfl Hc.out Hr.out ?_; simp only [Act.put, List.setIfInBounds_toArray, List.set_cons_zero, List.set_cons_succ]))
      go_ret
      exact ⟨rfl, (Keep.refl _ _).alloc _⟩
    · have hcmp := neq_z r hr _ (ne_zt hz)
      skip
      have e : sp 5 0 Y V r n = true := by simp [sp, iN, iK, iV, iR, iS, hr, hz]
      rw [e]
      have Hc : Hid _ := hr
      have HT : Hid (TabP w) := hT
      have hgd := guard_id
      have E0 : Hid _ := OAt.new (K := 5) (N := 0) (Y := Y) (V := V) (rv := .slice a n c) w hr
      generalize hX : (oc 5 0 Y V r (.slice a n c)).toArray = X at E0 ⊢
      obtain ⟨g0, g1, g2, g3, g36⟩ := E0.out.cells
      have Hr : Hid _ := E0.out.ref
      clear e hX hr hT
      try clear hz
      go_enter Tryd.func56, Tryd.ntmps56
      go_wp2_with (first | (go_at_call 39; refine (of_any _ (HT.out.calm ((Keep.refl _ _).alloc _)) 5).mono ?_; rw [show pk 5 = 22 from rfl]; rintro e w1 ⟨rfl, rfl⟩) | (refine wl_loadG (by rfl) rfl rfl Hc.out Hr.out ?_; simp only [Act.put, List.setIfInBounds_toArray, List.set_cons_zero, List.set_cons_succ]))
      go_ret
      exact ⟨rfl, (Keep.refl _ _).alloc _⟩
  · have hn1 : (N == 0) = false := by simpa using hn
    have hn2 : (N != 0) = true := by simpa using hn
    skip
    have e : sp 5 N Y V r n = true := by simp [sp, iN, iK, iV, iR, iS, hr, hn]
    rw [e]
    have Hc : Hid _ := hr
    have HT : Hid (TabP w) := hT
    have hgd := guard_id
    have E0 : Hid _ := OAt.new (K := 5) (N := N) (Y := Y) (V := V) (rv := .slice a n c) w hr
    generalize hX : (oc 5 N Y V r (.slice a n c)).toArray = X at E0 ⊢
    obtain ⟨g0, g1, g2, g3, g36⟩ := E0.out.cells
    have Hr : Hid _ := E0.out.ref
    clear e hX hr hT
    try clear hz
    go_enter Tryd.func56, Tryd.ntmps56
    go_wp2_with (first | (go_at_call 39; refine (of_any _ (HT.out.calm ((Keep.refl _ _).alloc _)) 5).mono ?_; rw [show pk 5 = 22 from rfl]; rintro e w1 ⟨rfl, rfl⟩) | (refine wl_loadG (by rfl) rfl rfl Hc.out Hr.out ?_; simp only [Act.put, List.setIfInBounds_toArray, List.set_cons_zero, List.set_cons_succ]))
    go_ret
    exact ⟨rfl, (Keep.refl _ _).alloc _⟩
set_option maxRecDepth 100000 in
set_option maxHeartbeats 1000000 in
theorem spare_6 (w : World) (hT : TabP w) (N : Int) (Y V : ByteArray) (r : List UInt8) (a : Option Addr) (n c : Nat) (hr : r.length = 32) :
    Calls Tryd.prog 56 #[.agg (oc 6 N Y V r (.slice a n c)).toArray] w fun e w' => e = .returned (.bool (sp 6 N Y V r n)) ∧ Keep (fun _ => False) w w' := by
  by_cases hn : N = 0
  · subst hn
    by_cases hy : Y.size = 0
    · obtain rfl := empty_of hy
      by_cases hs : n = 0
      · subst hs
        skip
        have e : sp 6 0 ByteArray.empty V r 0 = false := by simp [sp, iN, iK, iV, iR, iS, hr, hy]
        rw [e]
        have Hc : Hid _ := hr
        have HT : Hid (TabP w) := hT
        have hgd := guard_id
        have E0 : Hid _ := OAt.new (K := 6) (N := 0) (Y := ByteArray.empty) (V := V) (rv := .slice a 0 c) w hr
        generalize hX : (oc 6 0 ByteArray.empty V r (.slice a 0 c)).toArray = X at E0 ⊢
        obtain ⟨g0, g1, g2, g3, g36⟩ := E0.out.cells
        have Hr : Hid _ := E0.out.ref
        clear e hX hr hT
        try clear hz
        go_enter Tryd.func56, Tryd.ntmps56
        go_wp2_with (first | (go_at_call 39; refine (of_any _ (HT.out.calm ((Keep.refl _ _).alloc _)) 6).mono ?_; rw [show pk 6 = 12 from rfl]; rintro e w1 ⟨rfl, rfl⟩) | (refine wl_loadG (by rfl) rfl rfl Hc.out Hr.out ?_; simp only [Act.put, List.setIfInBounds_toArray, List.set_cons_zero, List.set_cons_succ]))
        go_ret
        exact ⟨rfl, (Keep.refl _ _).alloc _⟩
      · have hs1 : 0 < n := by omega
        skip
        have e : sp 6 0 ByteArray.empty V r n = true := by simp [sp, iN, iK, iV, iR, iS, hr, hy, hs1, hs]
        rw [e]
        have Hc : Hid _ := hr
        have HT : Hid (TabP w) := hT
        have hgd := guard_id
        have E0 : Hid _ := OAt.new (K := 6) (N := 0) (Y := ByteArray.empty) (V := V) (rv := .slice a n c) w hr
        generalize hX : (oc 6 0 ByteArray.empty V r (.slice a n c)).toArray = X at E0 ⊢
        obtain ⟨g0, g1, g2, g3, g36⟩ := E0.out.cells
        have Hr : Hid _ := E0.out.ref
        clear e hX hr hT
        try clear hz
        go_enter Tryd.func56, Tryd.ntmps56
        go_wp2_with (first | (go_at_call 39; refine (of_any _ (HT.out.calm ((Keep.refl _ _).alloc _)) 6).mono ?_; rw [show pk 6 = 12 from rfl]; rintro e w1 ⟨rfl, rfl⟩) | (refine wl_loadG (by rfl) rfl rfl Hc.out Hr.out ?_; simp only [Act.put, List.setIfInBounds_toArray, List.set_cons_zero, List.set_cons_succ]))
        go_ret
        exact ⟨rfl, (Keep.refl _ _).alloc _⟩
    · have hy1 := list_ne hy
      have hy2 := list_ne2 hy
      skip
      have e : sp 6 0 Y V r n = true := by simp [sp, iN, iK, iV, iR, iS, hr, hy]
      rw [e]
      have Hc : Hid _ := hr
      have HT : Hid (TabP w) := hT
      have hgd := guard_id
      have E0 : Hid _ := OAt.new (K := 6) (N := 0) (Y := Y) (V := V) (rv := .slice a n c) w hr
      generalize hX : (oc 6 0 Y V r (.slice a n c)).toArray = X at E0 ⊢
      obtain ⟨g0, g1, g2, g3, g36⟩ := E0.out.cells
      have Hr : Hid _ := E0.out.ref
      clear e hX hr hT
      try clear hz
      go_enter Tryd.func56, Tryd.ntmps56
      go_wp2_with (first | (go_at_call 39; refine (of_any _ (HT.out.calm ((Keep.refl _ _).alloc _)) 6).mono ?_; rw [show pk 6 = 12 from rfl]; rintro e w1 ⟨rfl, rfl⟩) | (refine wl_loadG (by rfl) rfl rfl Hc.out Hr.out ?_; simp only [Act.put, List.setIfInBounds_toArray, List.set_cons_zero, List.set_cons_succ]))
      go_ret
      exact ⟨rfl, (Keep.refl _ _).alloc _⟩
  · have hn1 : (N == 0) = false := by simpa using hn
    have hn2 : (N != 0) = true := by simpa using hn
    skip
    have e : sp 6 N Y V r n = true := by simp [sp, iN, iK, iV, iR, iS, hr, hn]
    rw [e]
    have Hc : Hid _ := hr
    have HT : Hid (TabP w) := hT
    have hgd := guard_id
    have E0 : Hid _ := OAt.new (K := 6) (N := N) (Y := Y) (V := V) (rv := .slice a n c) w hr
    generalize hX : (oc 6 N Y V r (.slice a n c)).toArray = X at E0 ⊢
    obtain ⟨g0, g1, g2, g3, g36⟩ := E0.out.cells
    have Hr : Hid _ := E0.out.ref
    clear e hX hr hT
    try clear hz
    go_enter Tryd.func56, Tryd.ntmps56
    go_wp2_with (first | (go_at_call 39; refine (of_any _ (HT.out.calm ((Keep.refl _ _).alloc _)) 6).mono ?_; rw [show pk 6 = 12 from rfl]; rintro e w1 ⟨rfl, rfl⟩) | (refine wl_loadG (by rfl) rfl rfl Hc.out Hr.out ?_; simp only [Act.put, List.setIfInBounds_toArray, List.set_cons_zero, List.set_cons_succ]))
    go_ret
    exact ⟨rfl, (Keep.refl _ _).alloc _⟩
set_option maxRecDepth 100000 in
set_option maxHeartbeats 1000000 in
theorem spare_7 (w : World) (hT : TabP w) (N : Int) (Y V : ByteArray) (r : List UInt8) (a : Option Addr) (n c : Nat) (hr : r.length = 32) :
    Calls Tryd.prog 56 #[.agg (oc 7 N Y V r (.slice a n c)).toArray] w fun e w' => e = .returned (.bool (sp 7 N Y V r n)) ∧ Keep (fun _ => False) w w' := by
  by_cases hn : N = 0
  · subst hn
    by_cases hy : Y.size = 0
    · obtain rfl := empty_of hy
      by_cases hv : V.size = 0
      · obtain rfl := empty_of hv
        by_cases hs : n = 0
        · subst hs
          skip
          have e : sp 7 0 ByteArray.empty ByteArray.empty r 0 = false := by simp [sp, iN, iK, iV, iR, iS, hr, hy, hv]
          rw [e]
          have Hc : Hid _ := hr
          have HT : Hid (TabP w) := hT
          have hgd := guard_id
          have E0 : Hid _ := OAt.new (K := 7) (N := 0) (Y := ByteArray.empty) (V := ByteArray.empty) (rv := .slice a 0 c) w hr
          generalize hX : (oc 7 0 ByteArray.empty ByteArray.empty r (.slice a 0 c)).toArray = X at E0 ⊢
          obtain ⟨g0, g1, g2, g3, g36⟩ := E0.out.cells
          have Hr : Hid _ := E0.out.ref
          clear e hX hr hT
          try clear hz
          go_enter Tryd.func56, Tryd.ntmps56
          go_wp2_with (first | (go_at_call 39; refine (of_any _ (HT.out.calm ((Keep.refl _ _).alloc _)) 7).mono ?_; rw [show pk 7 = 8 from rfl]; rintro e w1 ⟨rfl, rfl⟩) | (refine wl_loadG (by rfl) rfl rfl Hc.out Hr.out ?_; simp only [Act.put, List.setIfInBounds_toArray, List.set_cons_zero, List.set_cons_succ]))
          go_ret
          exact ⟨rfl, (Keep.refl _ _).alloc _⟩
        · have hs1 : 0 < n := by omega
          skip
          have e : sp 7 0 ByteArray.empty ByteArray.empty r n = true := by simp [sp, iN, iK, iV, iR, iS, hr, hy, hv, hs1, hs]
          rw [e]
          have Hc : Hid _ := hr
          have HT : Hid (TabP w) := hT
          have hgd := guard_id
          have E0 : Hid _ := OAt.new (K := 7) (N := 0) (Y := ByteArray.empty) (V := ByteArray.empty) (rv := .slice a n c) w hr
          generalize hX : (oc 7 0 ByteArray.empty ByteArray.empty r (.slice a n c)).toArray = X at E0 ⊢
          obtain ⟨g0, g1, g2, g3, g36⟩ := E0.out.cells
          have Hr : Hid _ := E0.out.ref
          clear e hX hr hT
          try clear hz
          go_enter Tryd.func56, Tryd.ntmps56
          go_wp2_with (first | (go_at_call 39; refine (of_any _ (HT.out.calm ((Keep.refl _ _).alloc _)) 7).mono ?_; rw [show pk 7 = 8 from rfl]; rintro e w1 ⟨rfl, rfl⟩) | (refine wl_loadG (by rfl) rfl rfl Hc.out Hr.out ?_; simp only [Act.put, List.setIfInBounds_toArray, List.set_cons_zero, List.set_cons_succ]))
          go_ret
          exact ⟨rfl, (Keep.refl _ _).alloc _⟩
      · have hv1 := list_ne hv
        have hv2 := list_ne2 hv
        skip
        have e : sp 7 0 ByteArray.empty V r n = true := by simp [sp, iN, iK, iV, iR, iS, hr, hy, hv]
        rw [e]
        have Hc : Hid _ := hr
        have HT : Hid (TabP w) := hT
        have hgd := guard_id
        have E0 : Hid _ := OAt.new (K := 7) (N := 0) (Y := ByteArray.empty) (V := V) (rv := .slice a n c) w hr
        generalize hX : (oc 7 0 ByteArray.empty V r (.slice a n c)).toArray = X at E0 ⊢
        obtain ⟨g0, g1, g2, g3, g36⟩ := E0.out.cells
        have Hr : Hid _ := E0.out.ref
        clear e hX hr hT
        try clear hz
        go_enter Tryd.func56, Tryd.ntmps56
        go_wp2_with (first | (go_at_call 39; refine (of_any _ (HT.out.calm ((Keep.refl _ _).alloc _)) 7).mono ?_; rw [show pk 7 = 8 from rfl]; rintro e w1 ⟨rfl, rfl⟩) | (refine wl_loadG (by rfl) rfl rfl Hc.out Hr.out ?_; simp only [Act.put, List.setIfInBounds_toArray, List.set_cons_zero, List.set_cons_succ]))
        go_ret
        exact ⟨rfl, (Keep.refl _ _).alloc _⟩
    · have hy1 := list_ne hy
      have hy2 := list_ne2 hy
      skip
      have e : sp 7 0 Y V r n = true := by simp [sp, iN, iK, iV, iR, iS, hr, hy]
      rw [e]
      have Hc : Hid _ := hr
      have HT : Hid (TabP w) := hT
      have hgd := guard_id
      have E0 : Hid _ := OAt.new (K := 7) (N := 0) (Y := Y) (V := V) (rv := .slice a n c) w hr
      generalize hX : (oc 7 0 Y V r (.slice a n c)).toArray = X at E0 ⊢
      obtain ⟨g0, g1, g2, g3, g36⟩ := E0.out.cells
      have Hr : Hid _ := E0.out.ref
      clear e hX hr hT
      try clear hz
      go_enter Tryd.func56, Tryd.ntmps56
      go_wp2_with (first | (go_at_call 39; refine (of_any _ (HT.out.calm ((Keep.refl _ _).alloc _)) 7).mono ?_; rw [show pk 7 = 8 from rfl]; rintro e w1 ⟨rfl, rfl⟩) | (refine wl_loadG (by rfl) rfl rfl Hc.out Hr.out ?_; simp only [Act.put, List.setIfInBounds_toArray, List.set_cons_zero, List.set_cons_succ]))
      go_ret
      exact ⟨rfl, (Keep.refl _ _).alloc _⟩
  · have hn1 : (N == 0) = false := by simpa using hn
    have hn2 : (N != 0) = true := by simpa using hn
    skip
    have e : sp 7 N Y V r n = true := by simp [sp, iN, iK, iV, iR, iS, hr, hn]
    rw [e]
    have Hc : Hid _ := hr
    have HT : Hid (TabP w) := hT
    have hgd := guard_id
    have E0 : Hid _ := OAt.new (K := 7) (N := N) (Y := Y) (V := V) (rv := .slice a n c) w hr
    generalize hX : (oc 7 N Y V r (.slice a n c)).toArray = X at E0 ⊢
    obtain ⟨g0, g1, g2, g3, g36⟩ := E0.out.cells
    have Hr : Hid _ := E0.out.ref
    clear e hX hr hT
    try clear hz
    go_enter Tryd.func56, Tryd.ntmps56
    go_wp2_with (first | (go_at_call 39; refine (of_any _ (HT.out.calm ((Keep.refl _ _).alloc _)) 7).mono ?_; rw [show pk 7 = 8 from rfl]; rintro e w1 ⟨rfl, rfl⟩) | (refine wl_loadG (by rfl) rfl rfl Hc.out Hr.out ?_; simp only [Act.put, List.setIfInBounds_toArray, List.set_cons_zero, List.set_cons_succ]))
    go_ret
    exact ⟨rfl, (Keep.refl _ _).alloc _⟩
theorem spare_any (w : World) (hT : TabP w) (K N : Int) (hK7 : 1 ≤ K ∧ K ≤ 7) (Y V : ByteArray) (r : List UInt8) (a : Option Addr) (n c : Nat) (hr : r.length = 32) (v : Bool) (hv : sp K N Y V r n = v) :
    Calls Tryd.prog 56 #[.agg (oc K N Y V r (.slice a n c)).toArray] w fun e w' => e = .returned (.bool v) ∧ Keep (fun _ => False) w w' := by
  subst hv
  rcases (by omega : K = 1 ∨ K = 2 ∨ K = 3 ∨ K = 4 ∨ K = 5 ∨ K = 6 ∨ K = 7) with rfl | rfl | rfl | rfl | rfl | rfl | rfl
  · exact spare_1 w hT N Y V r a n c hr
  · exact spare_2 w hT N Y V r a n c hr
  · exact spare_3 w hT N Y V r a n c hr
  · exact spare_4 w hT N Y V r a n c hr
  · exact spare_5 w hT N Y V r a n c hr
  · exact spare_6 w hT N Y V r a n c hr
  · exact spare_7 w hT N Y V r a n c hr
end Ox
end Go.Proofs.YtfoplimdbapdfaaDoor
