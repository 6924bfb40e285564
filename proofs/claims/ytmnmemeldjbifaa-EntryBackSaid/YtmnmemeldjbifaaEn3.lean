/-
  petrelref14.Check.
-/
import Derived.Test.YtmnmemeldjbifaaEn2
import Derived.Test.YtmnmemeldjbifaaText3
set_option linter.unusedVariables false
set_option linter.unusedSimpArgs false
namespace Go.Proofs.Ytmnmemeldjbifaa
open Go.RowKit
namespace En
open Oct Ids Ms
open Tp (tk)

set_option maxRecDepth 100000 in
theorem rcheck_none (w : World) (K : Int) (T B : ByteArray) (c : List UInt8) (hc : c.length = 32) (hK : K < 1 ∨ 7 < K) :
    Calls Try.prog 24 #[.agg (ec K T B c).toArray] w fun e w' => e = .returned (.int .i64 10) ∧ Keep (fun _ => False) w w' := by
  have E0 : Hid _ := EAt.new (K := K) (T := T) (B := B) w hc
  generalize hX : (ec K T B c).toArray = X at E0 ⊢
  obtain ⟨g0, g1, g2⟩ := E0.out.cells
  clear hX
  go_enter Try.func24, Try.ntmps24
  go_wp2_with (first | (go_at_call 58; refine (has_none _ _ hK).mono ?_; rintro e w1 ⟨rfl, rfl⟩))
  go_ret
  exact ⟨rfl, (Keep.refl _ _).alloc _⟩
set_option maxRecDepth 100000 in
theorem rcheck_4 (w : World) (T B : ByteArray) (c : List UInt8) (hc : c.length = 32) (hT : T.size ≤ maxLen) (hB : B.size ≤ maxLen) :
    Calls Try.prog 24 #[.agg (ec 4 T B c).toArray] w fun e w' => e = .returned (.int .i64 (ck 4 T B c)) ∧ Keep (fun _ => False) w w' := by
  unfold maxLen at hB
  by_cases ht : T.size = 0
  · obtain rfl := empty_of ht
    by_cases hb : B.size = 0
    · obtain rfl := empty_of hb
      have e : ck 4 ByteArray.empty ByteArray.empty c = 0 := by simp [ck, pT, pC, pB, pE, ht, hb]; try omega
      rw [e]
      have Hc : Hid _ := hc
      have hgd := guard_id
      have hh1 : (hs 4).toList.isEmpty = false := by decide +kernel
      have hh2 : ¬ (hs 4).toList = [] := by decide +kernel
      have E0 : Hid _ := EAt.new (K := 4) (T := ByteArray.empty) (B := ByteArray.empty) w hc
      generalize hX : (ec 4 ByteArray.empty ByteArray.empty c).toArray = X at E0 ⊢
      obtain ⟨g0, g1, g2⟩ := E0.out.cells
      have Hr : Hid _ := E0.out.commit
      clear e hX hc
      try clear hz
      go_enter Try.func24, Try.ntmps24
      go_wp2_with (first | (go_at_call 58; refine (has_any _ 4 (by decide)).mono ?_; rintro e w1 ⟨rfl, rfl⟩) | (go_at_call 59; refine (in_any _ 4 _ _ (by decide) (by decide) rfl).mono ?_; rintro e w1 ⟨rfl, rfl⟩) | (go_at_call 61; refine (Tp.rkind_any _ _ hT).mono ?_; rintro e w2 ⟨rfl, k1⟩; have HKK : Hid _ := ((Keep.refl (fun _ => False) w).alloc _).trans k1; have E0 : Hid _ := E0.out.calm k1; clear k1; obtain ⟨g0, g1, g2⟩ := E0.out.cells; have Hr : Hid _ := E0.out.commit) | (refine wl_loadG (by rfl) rfl rfl Hc.out Hr.out ?_; simp only [Act.put, List.setIfInBounds_toArray, List.set_cons_zero, List.set_cons_succ]))
      refine Txt.wp_region_text (fun w' => w'.cell? ⟨w.heap.size, 2, none⟩ = some (.string ByteArray.empty)) [0, 4, 0, 0, 2, 0, 0, 1, 4, 0, 0] (by kernel_rfl) (by kernel_rfl) g2 ?_
      repeat (first
        | (refine Txt.tl_pure (v := ?_) (by rfl) ?_ ?_; rotate_left; (focus (intro _; go_simp; try with_reducible rfl)); simp only [Act.put, List.setIfInBounds_toArray, List.set_cons_zero, List.set_cons_succ])
        | (refine Txt.tl_skip (by rfl) trivial ?_; simp only [Act.put, List.setIfInBounds_toArray, List.set_cons_zero, List.set_cons_succ])
        | (refine Txt.tl_load (v := ?_) (by rfl) (by rfl) (by rfl) (by kernel_rfl) ?_ ?_; rotate_left; (focus (first | assumption | (go_simp; done) | (go_simp; with_reducible rfl))); simp only [Act.put, List.setIfInBounds_toArray, List.set_cons_zero, List.set_cons_succ])
        | (refine Txt.tl_alloc (by rfl) ?_; go_simp; refine ⟨by (first | exact Txt.Le.alloc_drew _ _ | exact Txt.Le.alloc _ _), ?_⟩))
      refine Txt.tl_call Try.func59 (by kernel_rfl) (by kernel_rfl) (by rfl) (by rfl) (by rfl) (in_any _ 4 66 false (by decide) (by decide) rfl) ?_
      rintro e w9 ⟨rfl, rfl⟩
      refine ⟨_, rfl, g2, ?_⟩
      simp only [Act.put, List.setIfInBounds_toArray, List.set_cons_zero, List.set_cons_succ]
      have g2' := g2
      repeat (first
        | (refine Txt.tl_pure (v := ?_) (by rfl) ?_ ?_; rotate_left; (focus (intro _; go_simp; try with_reducible rfl)); simp only [Act.put, List.setIfInBounds_toArray, List.set_cons_zero, List.set_cons_succ])
        | (refine Txt.tl_skip (by rfl) (by first | trivial | assumption) ?_; simp only [Act.put, List.setIfInBounds_toArray, List.set_cons_zero, List.set_cons_succ])
        | (refine Txt.tl_load (v := ?_) (by rfl) (by rfl) (by rfl) (by kernel_rfl) ?_ ?_; rotate_left; (focus (first | assumption | (go_simp; done) | (go_simp; with_reducible rfl))); simp only [Act.put, List.setIfInBounds_toArray, List.set_cons_zero, List.set_cons_succ])
        | (refine Txt.tl_alloc (by rfl) ?_; go_simp; refine ⟨by (first | exact Txt.Le.alloc_drew _ _ | exact Txt.Le.alloc _ _), ?_⟩))
      refine Txt.tl_nil ?_
      go_wp2
      go_ret
      exact ⟨rfl, ((Keep.refl _ _).alloc _).drew⟩
    · have hb1 := list_ne hb
      have hb2 := list_ne2 hb
      have e : ck 4 ByteArray.empty B c = 4 := by simp [ck, pT, pC, pB, pE, ht, hb]; try omega
      rw [e]
      have Hc : Hid _ := hc
      have hgd := guard_id
      have hh1 : (hs 4).toList.isEmpty = false := by decide +kernel
      have hh2 : ¬ (hs 4).toList = [] := by decide +kernel
      have E0 : Hid _ := EAt.new (K := 4) (T := ByteArray.empty) (B := B) w hc
      generalize hX : (ec 4 ByteArray.empty B c).toArray = X at E0 ⊢
      obtain ⟨g0, g1, g2⟩ := E0.out.cells
      have Hr : Hid _ := E0.out.commit
      clear e hX hc
      try clear hz
      go_enter Try.func24, Try.ntmps24
      go_wp2_with (first | (go_at_call 58; refine (has_any _ 4 (by decide)).mono ?_; rintro e w1 ⟨rfl, rfl⟩) | (go_at_call 59; refine (in_any _ 4 _ _ (by decide) (by decide) rfl).mono ?_; rintro e w1 ⟨rfl, rfl⟩) | (go_at_call 61; refine (Tp.rkind_any _ _ hT).mono ?_; rintro e w2 ⟨rfl, k1⟩; have HKK : Hid _ := ((Keep.refl (fun _ => False) w).alloc _).trans k1; have E0 : Hid _ := E0.out.calm k1; clear k1; obtain ⟨g0, g1, g2⟩ := E0.out.cells; have Hr : Hid _ := E0.out.commit) | (refine wl_loadG (by rfl) rfl rfl Hc.out Hr.out ?_; simp only [Act.put, List.setIfInBounds_toArray, List.set_cons_zero, List.set_cons_succ]))
      go_ret
      exact ⟨rfl, ((Keep.refl _ _).alloc _)⟩
  · have ht1 := list_ne ht
    have ht2 := list_ne2 ht
    have e : ck 4 T B c = 4 := by simp [ck, pT, pC, pB, pE, ht]; try omega
    rw [e]
    have Hc : Hid _ := hc
    have hgd := guard_id
    have hh1 : (hs 4).toList.isEmpty = false := by decide +kernel
    have hh2 : ¬ (hs 4).toList = [] := by decide +kernel
    have E0 : Hid _ := EAt.new (K := 4) (T := T) (B := B) w hc
    generalize hX : (ec 4 T B c).toArray = X at E0 ⊢
    obtain ⟨g0, g1, g2⟩ := E0.out.cells
    have Hr : Hid _ := E0.out.commit
    clear e hX hc
    try clear hz
    go_enter Try.func24, Try.ntmps24
    go_wp2_with (first | (go_at_call 58; refine (has_any _ 4 (by decide)).mono ?_; rintro e w1 ⟨rfl, rfl⟩) | (go_at_call 59; refine (in_any _ 4 _ _ (by decide) (by decide) rfl).mono ?_; rintro e w1 ⟨rfl, rfl⟩) | (go_at_call 61; refine (Tp.rkind_any _ _ hT).mono ?_; rintro e w2 ⟨rfl, k1⟩; have HKK : Hid _ := ((Keep.refl (fun _ => False) w).alloc _).trans k1; have E0 : Hid _ := E0.out.calm k1; clear k1; obtain ⟨g0, g1, g2⟩ := E0.out.cells; have Hr : Hid _ := E0.out.commit) | (refine wl_loadG (by rfl) rfl rfl Hc.out Hr.out ?_; simp only [Act.put, List.setIfInBounds_toArray, List.set_cons_zero, List.set_cons_succ]))
    go_ret
    exact ⟨rfl, ((Keep.refl _ _).alloc _)⟩
set_option maxRecDepth 100000 in
set_option maxHeartbeats 2000000 in
theorem rcheck_1 (w : World) (T B : ByteArray) (c : List UInt8) (hc : c.length = 32) (hT : T.size ≤ maxLen) (hB : B.size ≤ maxLen) :
    Calls Try.prog 24 #[.agg (ec 1 T B c).toArray] w fun e w' => e = .returned (.int .i64 (ck 1 T B c)) ∧ Keep (fun _ => False) w w' := by
  unfold maxLen at hB
  by_cases ht : T.size = 0
  · obtain rfl := empty_of ht
    by_cases hz : c = Z32
    · have hcmp := neq_z c hc _ (ne_zf hz)
      by_cases hb : B.size = 0
      · obtain rfl := empty_of hb
        have e : ck 1 ByteArray.empty ByteArray.empty c = 4 := by simp [ck, pT, pC, pB, pE, ht, hz, hb]; try omega
        rw [e]
        have Hc : Hid _ := hc
        have hgd := guard_id
        have hh1 : (hs 1).toList.isEmpty = false := by decide +kernel
        have hh2 : ¬ (hs 1).toList = [] := by decide +kernel
        have E0 : Hid _ := EAt.new (K := 1) (T := ByteArray.empty) (B := ByteArray.empty) w hc
        generalize hX : (ec 1 ByteArray.empty ByteArray.empty c).toArray = X at E0 ⊢
        obtain ⟨g0, g1, g2⟩ := E0.out.cells
        have Hr : Hid _ := E0.out.commit
        clear e hX hc
        try clear hz
        go_enter Try.func24, Try.ntmps24
        go_wp2_with (first | (go_at_call 58; refine (has_any _ 1 (by decide)).mono ?_; rintro e w1 ⟨rfl, rfl⟩) | (go_at_call 59; refine (in_any _ 1 _ _ (by decide) (by decide) rfl).mono ?_; rintro e w1 ⟨rfl, rfl⟩) | (go_at_call 61; refine (Tp.rkind_any _ _ hT).mono ?_; rintro e w2 ⟨rfl, k1⟩; have HKK : Hid _ := ((Keep.refl (fun _ => False) w).alloc _).trans k1; have E0 : Hid _ := E0.out.calm k1; clear k1; obtain ⟨g0, g1, g2⟩ := E0.out.cells; have Hr : Hid _ := E0.out.commit) | (refine wl_loadG (by rfl) rfl rfl Hc.out Hr.out ?_; simp only [Act.put, List.setIfInBounds_toArray, List.set_cons_zero, List.set_cons_succ]))
        go_ret
        exact ⟨rfl, ((Keep.refl _ _).alloc _)⟩
      · have hb1 := list_ne hb
        have hb2 := list_ne2 hb
        by_cases hm : 256 < B.size
        · skip
          have e : ck 1 ByteArray.empty B c = 3 := by simp [ck, pT, pC, pB, pE, ht, hz, hb, hm]; try omega
          rw [e]
          have Hc : Hid _ := hc
          have hgd := guard_id
          have hh1 : (hs 1).toList.isEmpty = false := by decide +kernel
          have hh2 : ¬ (hs 1).toList = [] := by decide +kernel
          have E0 : Hid _ := EAt.new (K := 1) (T := ByteArray.empty) (B := B) w hc
          generalize hX : (ec 1 ByteArray.empty B c).toArray = X at E0 ⊢
          obtain ⟨g0, g1, g2⟩ := E0.out.cells
          have Hr : Hid _ := E0.out.commit
          clear e hX hc
          try clear hz
          go_enter Try.func24, Try.ntmps24
          go_wp2_with (first | (go_at_call 58; refine (has_any _ 1 (by decide)).mono ?_; rintro e w1 ⟨rfl, rfl⟩) | (go_at_call 59; refine (in_any _ 1 _ _ (by decide) (by decide) rfl).mono ?_; rintro e w1 ⟨rfl, rfl⟩) | (go_at_call 61; refine (Tp.rkind_any _ _ hT).mono ?_; rintro e w2 ⟨rfl, k1⟩; have HKK : Hid _ := ((Keep.refl (fun _ => False) w).alloc _).trans k1; have E0 : Hid _ := E0.out.calm k1; clear k1; obtain ⟨g0, g1, g2⟩ := E0.out.cells; have Hr : Hid _ := E0.out.commit) | (refine wl_loadG (by rfl) rfl rfl Hc.out Hr.out ?_; simp only [Act.put, List.setIfInBounds_toArray, List.set_cons_zero, List.set_cons_succ]))
          refine Txt.wp_region_text (fun w' => w'.cell? ⟨w.heap.size, 2, none⟩ = some (.string B)) [0, 4, 0, 0, 2, 0, 0, 1, 4, 0, 0] (by kernel_rfl) (by kernel_rfl) g2 ?_
          repeat (first
            | (refine Txt.tl_pure (v := ?_) (by rfl) ?_ ?_; rotate_left; (focus (intro _; go_simp; try with_reducible rfl)); simp only [Act.put, List.setIfInBounds_toArray, List.set_cons_zero, List.set_cons_succ])
            | (refine Txt.tl_skip (by rfl) trivial ?_; simp only [Act.put, List.setIfInBounds_toArray, List.set_cons_zero, List.set_cons_succ])
            | (refine Txt.tl_load (v := ?_) (by rfl) (by rfl) (by rfl) (by kernel_rfl) ?_ ?_; rotate_left; (focus (first | assumption | (go_simp; done) | (go_simp; with_reducible rfl))); simp only [Act.put, List.setIfInBounds_toArray, List.set_cons_zero, List.set_cons_succ])
            | (refine Txt.tl_alloc (by rfl) ?_; go_simp; refine ⟨by (first | exact Txt.Le.alloc_drew _ _ | exact Txt.Le.alloc _ _), ?_⟩))
          refine Txt.tl_call Try.func59 (by kernel_rfl) (by kernel_rfl) (by rfl) (by rfl) (by rfl) (in_any _ 1 66 true (by decide) (by decide) rfl) ?_
          rintro e w9 ⟨rfl, rfl⟩
          refine ⟨_, rfl, g2, ?_⟩
          simp only [Act.put, List.setIfInBounds_toArray, List.set_cons_zero, List.set_cons_succ]
          repeat (first
            | (refine Txt.tl_pure (v := ?_) (by rfl) ?_ ?_; rotate_left; (focus (intro _; go_simp; try with_reducible rfl)); simp only [Act.put, List.setIfInBounds_toArray, List.set_cons_zero, List.set_cons_succ])
            | (refine Txt.tl_skip (by rfl) trivial ?_; simp only [Act.put, List.setIfInBounds_toArray, List.set_cons_zero, List.set_cons_succ])
            | (refine Txt.tl_load (v := ?_) (by rfl) (by rfl) (by rfl) (by kernel_rfl) ?_ ?_; rotate_left; (focus (first | assumption | (go_simp; done) | (go_simp; with_reducible rfl))); simp only [Act.put, List.setIfInBounds_toArray, List.set_cons_zero, List.set_cons_succ])
            | (refine Txt.tl_alloc (by rfl) ?_; go_simp; refine ⟨by (first | exact Txt.Le.alloc_drew _ _ | exact Txt.Le.alloc _ _), ?_⟩))
          refine Txt.tl_loadS (v := .string B) (by rfl) (by rfl) (by rfl) (by kernel_rfl) (fun _ h => h) ?_
          simp only [Act.put, List.setIfInBounds_toArray, List.set_cons_zero, List.set_cons_succ]
          repeat (first
            | (refine Txt.tl_pure (v := ?_) (by rfl) ?_ ?_; rotate_left; (focus (intro _; go_simp; try with_reducible rfl)); simp only [Act.put, List.setIfInBounds_toArray, List.set_cons_zero, List.set_cons_succ])
            | (refine Txt.tl_skip (by rfl) trivial ?_; simp only [Act.put, List.setIfInBounds_toArray, List.set_cons_zero, List.set_cons_succ])
            | (refine Txt.tl_load (v := ?_) (by rfl) (by rfl) (by rfl) (by kernel_rfl) ?_ ?_; rotate_left; (focus (first | assumption | (go_simp; done) | (go_simp; with_reducible rfl))); simp only [Act.put, List.setIfInBounds_toArray, List.set_cons_zero, List.set_cons_succ])
            | (refine Txt.tl_alloc (by rfl) ?_; go_simp; refine ⟨by (first | exact Txt.Le.alloc_drew _ _ | exact Txt.Le.alloc _ _), ?_⟩))
          refine Txt.tl_call Try.func62 (by kernel_rfl) (by kernel_rfl) (by rfl) (by rfl) (by rfl) (rmost_any _ 1 (by decide) 256 (by decide)) ?_
          rintro e w9 ⟨rfl, rfl⟩
          refine ⟨_, rfl, g2, ?_⟩
          simp only [Act.put, List.setIfInBounds_toArray, List.set_cons_zero, List.set_cons_succ]
          repeat (first
            | (refine Txt.tl_pure (v := ?_) (by rfl) ?_ ?_; rotate_left; (focus (intro _; go_simp; try with_reducible rfl)); simp only [Act.put, List.setIfInBounds_toArray, List.set_cons_zero, List.set_cons_succ])
            | (refine Txt.tl_skip (by rfl) trivial ?_; simp only [Act.put, List.setIfInBounds_toArray, List.set_cons_zero, List.set_cons_succ])
            | (refine Txt.tl_load (v := ?_) (by rfl) (by rfl) (by rfl) (by kernel_rfl) ?_ ?_; rotate_left; (focus (first | assumption | (go_simp; done) | (go_simp; with_reducible rfl))); simp only [Act.put, List.setIfInBounds_toArray, List.set_cons_zero, List.set_cons_succ])
            | (refine Txt.tl_alloc (by rfl) ?_; go_simp; refine ⟨by (first | exact Txt.Le.alloc_drew _ _ | exact Txt.Le.alloc _ _), ?_⟩))
          refine Txt.tl_nil ?_
          go_wp2
          go_ret
          exact ⟨rfl, ((Keep.refl _ _).alloc _).drew⟩
        · skip
          have e : ck 1 ByteArray.empty B c = 0 := by simp [ck, pT, pC, pB, pE, ht, hz, hb, hm]; try omega
          rw [e]
          have Hc : Hid _ := hc
          have hgd := guard_id
          have hh1 : (hs 1).toList.isEmpty = false := by decide +kernel
          have hh2 : ¬ (hs 1).toList = [] := by decide +kernel
          have E0 : Hid _ := EAt.new (K := 1) (T := ByteArray.empty) (B := B) w hc
          generalize hX : (ec 1 ByteArray.empty B c).toArray = X at E0 ⊢
          obtain ⟨g0, g1, g2⟩ := E0.out.cells
          have Hr : Hid _ := E0.out.commit
          clear e hX hc
          try clear hz
          go_enter Try.func24, Try.ntmps24
          go_wp2_with (first | (go_at_call 58; refine (has_any _ 1 (by decide)).mono ?_; rintro e w1 ⟨rfl, rfl⟩) | (go_at_call 59; refine (in_any _ 1 _ _ (by decide) (by decide) rfl).mono ?_; rintro e w1 ⟨rfl, rfl⟩) | (go_at_call 61; refine (Tp.rkind_any _ _ hT).mono ?_; rintro e w2 ⟨rfl, k1⟩; have HKK : Hid _ := ((Keep.refl (fun _ => False) w).alloc _).trans k1; have E0 : Hid _ := E0.out.calm k1; clear k1; obtain ⟨g0, g1, g2⟩ := E0.out.cells; have Hr : Hid _ := E0.out.commit) | (refine wl_loadG (by rfl) rfl rfl Hc.out Hr.out ?_; simp only [Act.put, List.setIfInBounds_toArray, List.set_cons_zero, List.set_cons_succ]))
          refine Txt.wp_region_text (fun w' => w'.cell? ⟨w.heap.size, 2, none⟩ = some (.string B)) [0, 4, 0, 0, 2, 0, 0, 1, 4, 0, 0] (by kernel_rfl) (by kernel_rfl) g2 ?_
          repeat (first
            | (refine Txt.tl_pure (v := ?_) (by rfl) ?_ ?_; rotate_left; (focus (intro _; go_simp; try with_reducible rfl)); simp only [Act.put, List.setIfInBounds_toArray, List.set_cons_zero, List.set_cons_succ])
            | (refine Txt.tl_skip (by rfl) trivial ?_; simp only [Act.put, List.setIfInBounds_toArray, List.set_cons_zero, List.set_cons_succ])
            | (refine Txt.tl_load (v := ?_) (by rfl) (by rfl) (by rfl) (by kernel_rfl) ?_ ?_; rotate_left; (focus (first | assumption | (go_simp; done) | (go_simp; with_reducible rfl))); simp only [Act.put, List.setIfInBounds_toArray, List.set_cons_zero, List.set_cons_succ])
            | (refine Txt.tl_alloc (by rfl) ?_; go_simp; refine ⟨by (first | exact Txt.Le.alloc_drew _ _ | exact Txt.Le.alloc _ _), ?_⟩))
          refine Txt.tl_call Try.func59 (by kernel_rfl) (by kernel_rfl) (by rfl) (by rfl) (by rfl) (in_any _ 1 66 true (by decide) (by decide) rfl) ?_
          rintro e w9 ⟨rfl, rfl⟩
          refine ⟨_, rfl, g2, ?_⟩
          simp only [Act.put, List.setIfInBounds_toArray, List.set_cons_zero, List.set_cons_succ]
          repeat (first
            | (refine Txt.tl_pure (v := ?_) (by rfl) ?_ ?_; rotate_left; (focus (intro _; go_simp; try with_reducible rfl)); simp only [Act.put, List.setIfInBounds_toArray, List.set_cons_zero, List.set_cons_succ])
            | (refine Txt.tl_skip (by rfl) trivial ?_; simp only [Act.put, List.setIfInBounds_toArray, List.set_cons_zero, List.set_cons_succ])
            | (refine Txt.tl_load (v := ?_) (by rfl) (by rfl) (by rfl) (by kernel_rfl) ?_ ?_; rotate_left; (focus (first | assumption | (go_simp; done) | (go_simp; with_reducible rfl))); simp only [Act.put, List.setIfInBounds_toArray, List.set_cons_zero, List.set_cons_succ])
            | (refine Txt.tl_alloc (by rfl) ?_; go_simp; refine ⟨by (first | exact Txt.Le.alloc_drew _ _ | exact Txt.Le.alloc _ _), ?_⟩))
          refine Txt.tl_loadS (v := .string B) (by rfl) (by rfl) (by rfl) (by kernel_rfl) (fun _ h => h) ?_
          simp only [Act.put, List.setIfInBounds_toArray, List.set_cons_zero, List.set_cons_succ]
          repeat (first
            | (refine Txt.tl_pure (v := ?_) (by rfl) ?_ ?_; rotate_left; (focus (intro _; go_simp; try with_reducible rfl)); simp only [Act.put, List.setIfInBounds_toArray, List.set_cons_zero, List.set_cons_succ])
            | (refine Txt.tl_skip (by rfl) trivial ?_; simp only [Act.put, List.setIfInBounds_toArray, List.set_cons_zero, List.set_cons_succ])
            | (refine Txt.tl_load (v := ?_) (by rfl) (by rfl) (by rfl) (by kernel_rfl) ?_ ?_; rotate_left; (focus (first | assumption | (go_simp; done) | (go_simp; with_reducible rfl))); simp only [Act.put, List.setIfInBounds_toArray, List.set_cons_zero, List.set_cons_succ])
            | (refine Txt.tl_alloc (by rfl) ?_; go_simp; refine ⟨by (first | exact Txt.Le.alloc_drew _ _ | exact Txt.Le.alloc _ _), ?_⟩))
          refine Txt.tl_call Try.func62 (by kernel_rfl) (by kernel_rfl) (by rfl) (by rfl) (by rfl) (rmost_any _ 1 (by decide) 256 (by decide)) ?_
          rintro e w9 ⟨rfl, rfl⟩
          refine ⟨_, rfl, g2, ?_⟩
          simp only [Act.put, List.setIfInBounds_toArray, List.set_cons_zero, List.set_cons_succ]
          repeat (first
            | (refine Txt.tl_pure (v := ?_) (by rfl) ?_ ?_; rotate_left; (focus (intro _; go_simp; try with_reducible rfl)); simp only [Act.put, List.setIfInBounds_toArray, List.set_cons_zero, List.set_cons_succ])
            | (refine Txt.tl_skip (by rfl) trivial ?_; simp only [Act.put, List.setIfInBounds_toArray, List.set_cons_zero, List.set_cons_succ])
            | (refine Txt.tl_load (v := ?_) (by rfl) (by rfl) (by rfl) (by kernel_rfl) ?_ ?_; rotate_left; (focus (first | assumption | (go_simp; done) | (go_simp; with_reducible rfl))); simp only [Act.put, List.setIfInBounds_toArray, List.set_cons_zero, List.set_cons_succ])
            | (refine Txt.tl_alloc (by rfl) ?_; go_simp; refine ⟨by (first | exact Txt.Le.alloc_drew _ _ | exact Txt.Le.alloc _ _), ?_⟩))
          refine Txt.tl_nil ?_
          go_wp2
          go_ret
          exact ⟨rfl, ((Keep.refl _ _).alloc _).drew⟩
    · have hcmp := neq_z c hc _ (ne_zt hz)
      have e : ck 1 ByteArray.empty B c = 4 := by simp [ck, pT, pC, pB, pE, ht, hz]; try omega
      rw [e]
      have Hc : Hid _ := hc
      have hgd := guard_id
      have hh1 : (hs 1).toList.isEmpty = false := by decide +kernel
      have hh2 : ¬ (hs 1).toList = [] := by decide +kernel
      have E0 : Hid _ := EAt.new (K := 1) (T := ByteArray.empty) (B := B) w hc
      generalize hX : (ec 1 ByteArray.empty B c).toArray = X at E0 ⊢
      obtain ⟨g0, g1, g2⟩ := E0.out.cells
      have Hr : Hid _ := E0.out.commit
      clear e hX hc
      try clear hz
      go_enter Try.func24, Try.ntmps24
      go_wp2_with (first | (go_at_call 58; refine (has_any _ 1 (by decide)).mono ?_; rintro e w1 ⟨rfl, rfl⟩) | (go_at_call 59; refine (in_any _ 1 _ _ (by decide) (by decide) rfl).mono ?_; rintro e w1 ⟨rfl, rfl⟩) | (go_at_call 61; refine (Tp.rkind_any _ _ hT).mono ?_; rintro e w2 ⟨rfl, k1⟩; have HKK : Hid _ := ((Keep.refl (fun _ => False) w).alloc _).trans k1; have E0 : Hid _ := E0.out.calm k1; clear k1; obtain ⟨g0, g1, g2⟩ := E0.out.cells; have Hr : Hid _ := E0.out.commit) | (refine wl_loadG (by rfl) rfl rfl Hc.out Hr.out ?_; simp only [Act.put, List.setIfInBounds_toArray, List.set_cons_zero, List.set_cons_succ]))
      go_ret
      exact ⟨rfl, ((Keep.refl _ _).alloc _)⟩
  · have ht1 := list_ne ht
    have ht2 := list_ne2 ht
    have e : ck 1 T B c = 4 := by simp [ck, pT, pC, pB, pE, ht]; try omega
    rw [e]
    have Hc : Hid _ := hc
    have hgd := guard_id
    have hh1 : (hs 1).toList.isEmpty = false := by decide +kernel
    have hh2 : ¬ (hs 1).toList = [] := by decide +kernel
    have E0 : Hid _ := EAt.new (K := 1) (T := T) (B := B) w hc
    generalize hX : (ec 1 T B c).toArray = X at E0 ⊢
    obtain ⟨g0, g1, g2⟩ := E0.out.cells
    have Hr : Hid _ := E0.out.commit
    clear e hX hc
    try clear hz
    go_enter Try.func24, Try.ntmps24
    go_wp2_with (first | (go_at_call 58; refine (has_any _ 1 (by decide)).mono ?_; rintro e w1 ⟨rfl, rfl⟩) | (go_at_call 59; refine (in_any _ 1 _ _ (by decide) (by decide) rfl).mono ?_; rintro e w1 ⟨rfl, rfl⟩) | (go_at_call 61; refine (Tp.rkind_any _ _ hT).mono ?_; rintro e w2 ⟨rfl, k1⟩; have HKK : Hid _ := ((Keep.refl (fun _ => False) w).alloc _).trans k1; have E0 : Hid _ := E0.out.calm k1; clear k1; obtain ⟨g0, g1, g2⟩ := E0.out.cells; have Hr : Hid _ := E0.out.commit) | (refine wl_loadG (by rfl) rfl rfl Hc.out Hr.out ?_; simp only [Act.put, List.setIfInBounds_toArray, List.set_cons_zero, List.set_cons_succ]))
    go_ret
    exact ⟨rfl, ((Keep.refl _ _).alloc _)⟩
set_option maxRecDepth 100000 in
set_option maxHeartbeats 2000000 in
theorem rcheck_2 (w : World) (T B : ByteArray) (c : List UInt8) (hc : c.length = 32) (hT : T.size ≤ maxLen) (hB : B.size ≤ maxLen) :
    Calls Try.prog 24 #[.agg (ec 2 T B c).toArray] w fun e w' => e = .returned (.int .i64 (ck 2 T B c)) ∧ Keep (fun _ => False) w w' := by
  unfold maxLen at hB
  by_cases ht : T.size = 0
  · obtain rfl := empty_of ht
    by_cases hz : c = Z32
    · have hcmp := neq_z c hc _ (ne_zf hz)
      by_cases hb : B.size = 0
      · obtain rfl := empty_of hb
        have e : ck 2 ByteArray.empty ByteArray.empty c = 4 := by simp [ck, pT, pC, pB, pE, ht, hz, hb]; try omega
        rw [e]
        have Hc : Hid _ := hc
        have hgd := guard_id
        have hh1 : (hs 2).toList.isEmpty = false := by decide +kernel
        have hh2 : ¬ (hs 2).toList = [] := by decide +kernel
        have E0 : Hid _ := EAt.new (K := 2) (T := ByteArray.empty) (B := ByteArray.empty) w hc
        generalize hX : (ec 2 ByteArray.empty ByteArray.empty c).toArray = X at E0 ⊢
        obtain ⟨g0, g1, g2⟩ := E0.out.cells
        have Hr : Hid _ := E0.out.commit
        clear e hX hc
        try clear hz
        go_enter Try.func24, Try.ntmps24
        go_wp2_with (first | (go_at_call 58; refine (has_any _ 2 (by decide)).mono ?_; rintro e w1 ⟨rfl, rfl⟩) | (go_at_call 59; refine (in_any _ 2 _ _ (by decide) (by decide) rfl).mono ?_; rintro e w1 ⟨rfl, rfl⟩) | (go_at_call 61; refine (Tp.rkind_any _ _ hT).mono ?_; rintro e w2 ⟨rfl, k1⟩; have HKK : Hid _ := ((Keep.refl (fun _ => False) w).alloc _).trans k1; have E0 : Hid _ := E0.out.calm k1; clear k1; obtain ⟨g0, g1, g2⟩ := E0.out.cells; have Hr : Hid _ := E0.out.commit) | (refine wl_loadG (by rfl) rfl rfl Hc.out Hr.out ?_; simp only [Act.put, List.setIfInBounds_toArray, List.set_cons_zero, List.set_cons_succ]))
        go_ret
        exact ⟨rfl, ((Keep.refl _ _).alloc _)⟩
      · have hb1 := list_ne hb
        have hb2 := list_ne2 hb
        by_cases hm : 256 < B.size
        · skip
          have e : ck 2 ByteArray.empty B c = 3 := by simp [ck, pT, pC, pB, pE, ht, hz, hb, hm]; try omega
          rw [e]
          have Hc : Hid _ := hc
          have hgd := guard_id
          have hh1 : (hs 2).toList.isEmpty = false := by decide +kernel
          have hh2 : ¬ (hs 2).toList = [] := by decide +kernel
          have E0 : Hid _ := EAt.new (K := 2) (T := ByteArray.empty) (B := B) w hc
          generalize hX : (ec 2 ByteArray.empty B c).toArray = X at E0 ⊢
          obtain ⟨g0, g1, g2⟩ := E0.out.cells
          have Hr : Hid _ := E0.out.commit
          clear e hX hc
          try clear hz
          go_enter Try.func24, Try.ntmps24
          go_wp2_with (first | (go_at_call 58; refine (has_any _ 2 (by decide)).mono ?_; rintro e w1 ⟨rfl, rfl⟩) | (go_at_call 59; refine (in_any _ 2 _ _ (by decide) (by decide) rfl).mono ?_; rintro e w1 ⟨rfl, rfl⟩) | (go_at_call 61; refine (Tp.rkind_any _ _ hT).mono ?_; rintro e w2 ⟨rfl, k1⟩; have HKK : Hid _ := ((Keep.refl (fun _ => False) w).alloc _).trans k1; have E0 : Hid _ := E0.out.calm k1; clear k1; obtain ⟨g0, g1, g2⟩ := E0.out.cells; have Hr : Hid _ := E0.out.commit) | (refine wl_loadG (by rfl) rfl rfl Hc.out Hr.out ?_; simp only [Act.put, List.setIfInBounds_toArray, List.set_cons_zero, List.set_cons_succ]))
          refine Txt.wp_region_text (fun w' => w'.cell? ⟨w.heap.size, 2, none⟩ = some (.string B)) [0, 4, 0, 0, 2, 0, 0, 1, 4, 0, 0] (by kernel_rfl) (by kernel_rfl) g2 ?_
          repeat (first
            | (refine Txt.tl_pure (v := ?_) (by rfl) ?_ ?_; rotate_left; (focus (intro _; go_simp; try with_reducible rfl)); simp only [Act.put, List.setIfInBounds_toArray, List.set_cons_zero, List.set_cons_succ])
            | (refine Txt.tl_skip (by rfl) trivial ?_; simp only [Act.put, List.setIfInBounds_toArray, List.set_cons_zero, List.set_cons_succ])
            | (refine Txt.tl_load (v := ?_) (by rfl) (by rfl) (by rfl) (by kernel_rfl) ?_ ?_; rotate_left; (focus (first | assumption | (go_simp; done) | (go_simp; with_reducible rfl))); simp only [Act.put, List.setIfInBounds_toArray, List.set_cons_zero, List.set_cons_succ])
            | (refine Txt.tl_alloc (by rfl) ?_; go_simp; refine ⟨by (first | exact Txt.Le.alloc_drew _ _ | exact Txt.Le.alloc _ _), ?_⟩))
          refine Txt.tl_call Try.func59 (by kernel_rfl) (by kernel_rfl) (by rfl) (by rfl) (by rfl) (in_any _ 2 66 true (by decide) (by decide) rfl) ?_
          rintro e w9 ⟨rfl, rfl⟩
          refine ⟨_, rfl, g2, ?_⟩
          simp only [Act.put, List.setIfInBounds_toArray, List.set_cons_zero, List.set_cons_succ]
          repeat (first
            | (refine Txt.tl_pure (v := ?_) (by rfl) ?_ ?_; rotate_left; (focus (intro _; go_simp; try with_reducible rfl)); simp only [Act.put, List.setIfInBounds_toArray, List.set_cons_zero, List.set_cons_succ])
            | (refine Txt.tl_skip (by rfl) trivial ?_; simp only [Act.put, List.setIfInBounds_toArray, List.set_cons_zero, List.set_cons_succ])
            | (refine Txt.tl_load (v := ?_) (by rfl) (by rfl) (by rfl) (by kernel_rfl) ?_ ?_; rotate_left; (focus (first | assumption | (go_simp; done) | (go_simp; with_reducible rfl))); simp only [Act.put, List.setIfInBounds_toArray, List.set_cons_zero, List.set_cons_succ])
            | (refine Txt.tl_alloc (by rfl) ?_; go_simp; refine ⟨by (first | exact Txt.Le.alloc_drew _ _ | exact Txt.Le.alloc _ _), ?_⟩))
          refine Txt.tl_loadS (v := .string B) (by rfl) (by rfl) (by rfl) (by kernel_rfl) (fun _ h => h) ?_
          simp only [Act.put, List.setIfInBounds_toArray, List.set_cons_zero, List.set_cons_succ]
          repeat (first
            | (refine Txt.tl_pure (v := ?_) (by rfl) ?_ ?_; rotate_left; (focus (intro _; go_simp; try with_reducible rfl)); simp only [Act.put, List.setIfInBounds_toArray, List.set_cons_zero, List.set_cons_succ])
            | (refine Txt.tl_skip (by rfl) trivial ?_; simp only [Act.put, List.setIfInBounds_toArray, List.set_cons_zero, List.set_cons_succ])
            | (refine Txt.tl_load (v := ?_) (by rfl) (by rfl) (by rfl) (by kernel_rfl) ?_ ?_; rotate_left; (focus (first | assumption | (go_simp; done) | (go_simp; with_reducible rfl))); simp only [Act.put, List.setIfInBounds_toArray, List.set_cons_zero, List.set_cons_succ])
            | (refine Txt.tl_alloc (by rfl) ?_; go_simp; refine ⟨by (first | exact Txt.Le.alloc_drew _ _ | exact Txt.Le.alloc _ _), ?_⟩))
          refine Txt.tl_call Try.func62 (by kernel_rfl) (by kernel_rfl) (by rfl) (by rfl) (by rfl) (rmost_any _ 2 (by decide) 256 (by decide)) ?_
          rintro e w9 ⟨rfl, rfl⟩
          refine ⟨_, rfl, g2, ?_⟩
          simp only [Act.put, List.setIfInBounds_toArray, List.set_cons_zero, List.set_cons_succ]
          repeat (first
            | (refine Txt.tl_pure (v := ?_) (by rfl) ?_ ?_; rotate_left; (focus (intro _; go_simp; try with_reducible rfl)); simp only [Act.put, List.setIfInBounds_toArray, List.set_cons_zero, List.set_cons_succ])
            | (refine Txt.tl_skip (by rfl) trivial ?_; simp only [Act.put, List.setIfInBounds_toArray, List.set_cons_zero, List.set_cons_succ])
            | (refine Txt.tl_load (v := ?_) (by rfl) (by rfl) (by rfl) (by kernel_rfl) ?_ ?_; rotate_left; (focus (first | assumption | (go_simp; done) | (go_simp; with_reducible rfl))); simp only [Act.put, List.setIfInBounds_toArray, List.set_cons_zero, List.set_cons_succ])
            | (refine Txt.tl_alloc (by rfl) ?_; go_simp; refine ⟨by (first | exact Txt.Le.alloc_drew _ _ | exact Txt.Le.alloc _ _), ?_⟩))
          refine Txt.tl_nil ?_
          go_wp2
          go_ret
          exact ⟨rfl, ((Keep.refl _ _).alloc _).drew⟩
        · skip
          have e : ck 2 ByteArray.empty B c = 0 := by simp [ck, pT, pC, pB, pE, ht, hz, hb, hm]; try omega
          rw [e]
          have Hc : Hid _ := hc
          have hgd := guard_id
          have hh1 : (hs 2).toList.isEmpty = false := by decide +kernel
          have hh2 : ¬ (hs 2).toList = [] := by decide +kernel
          have E0 : Hid _ := EAt.new (K := 2) (T := ByteArray.empty) (B := B) w hc
          generalize hX : (ec 2 ByteArray.empty B c).toArray = X at E0 ⊢
          obtain ⟨g0, g1, g2⟩ := E0.out.cells
          have Hr : Hid _ := E0.out.commit
          clear e hX hc
          try clear hz
          go_enter Try.func24, Try.ntmps24
          go_wp2_with (first | (go_at_call 58; refine (has_any _ 2 (by decide)).mono ?_; rintro e w1 ⟨rfl, rfl⟩) | (go_at_call 59; refine (in_any _ 2 _ _ (by decide) (by decide) rfl).mono ?_; rintro e w1 ⟨rfl, rfl⟩) | (go_at_call 61; refine (Tp.rkind_any _ _ hT).mono ?_; rintro e w2 ⟨rfl, k1⟩; have HKK : Hid _ := ((Keep.refl (fun _ => False) w).alloc _).trans k1; have E0 : Hid _ := E0.out.calm k1; clear k1; obtain ⟨g0, g1, g2⟩ := E0.out.cells; have Hr : Hid _ := E0.out.commit) | (refine wl_loadG (by rfl) rfl rfl Hc.out Hr.out ?_; simp only [Act.put, List.setIfInBounds_toArray, List.set_cons_zero, List.set_cons_succ]))
          refine Txt.wp_region_text (fun w' => w'.cell? ⟨w.heap.size, 2, none⟩ = some (.string B)) [0, 4, 0, 0, 2, 0, 0, 1, 4, 0, 0] (by kernel_rfl) (by kernel_rfl) g2 ?_
          repeat (first
            | (refine Txt.tl_pure (v := ?_) (by rfl) ?_ ?_; rotate_left; (focus (intro _; go_simp; try with_reducible rfl)); simp only [Act.put, List.setIfInBounds_toArray, List.set_cons_zero, List.set_cons_succ])
            | (refine Txt.tl_skip (by rfl) trivial ?_; simp only [Act.put, List.setIfInBounds_toArray, List.set_cons_zero, List.set_cons_succ])
            | (refine Txt.tl_load (v := ?_) (by rfl) (by rfl) (by rfl) (by kernel_rfl) ?_ ?_; rotate_left; (focus (first | assumption | (go_simp; done) | (go_simp; with_reducible rfl))); simp only [Act.put, List.setIfInBounds_toArray, List.set_cons_zero, List.set_cons_succ])
            | (refine Txt.tl_alloc (by rfl) ?_; go_simp; refine ⟨by (first | exact Txt.Le.alloc_drew _ _ | exact Txt.Le.alloc _ _), ?_⟩))
          refine Txt.tl_call Try.func59 (by kernel_rfl) (by kernel_rfl) (by rfl) (by rfl) (by rfl) (in_any _ 2 66 true (by decide) (by decide) rfl) ?_
          rintro e w9 ⟨rfl, rfl⟩
          refine ⟨_, rfl, g2, ?_⟩
          simp only [Act.put, List.setIfInBounds_toArray, List.set_cons_zero, List.set_cons_succ]
          repeat (first
            | (refine Txt.tl_pure (v := ?_) (by rfl) ?_ ?_; rotate_left; (focus (intro _; go_simp; try with_reducible rfl)); simp only [Act.put, List.setIfInBounds_toArray, List.set_cons_zero, List.set_cons_succ])
            | (refine Txt.tl_skip (by rfl) trivial ?_; simp only [Act.put, List.setIfInBounds_toArray, List.set_cons_zero, List.set_cons_succ])
            | (refine Txt.tl_load (v := ?_) (by rfl) (by rfl) (by rfl) (by kernel_rfl) ?_ ?_; rotate_left; (focus (first | assumption | (go_simp; done) | (go_simp; with_reducible rfl))); simp only [Act.put, List.setIfInBounds_toArray, List.set_cons_zero, List.set_cons_succ])
            | (refine Txt.tl_alloc (by rfl) ?_; go_simp; refine ⟨by (first | exact Txt.Le.alloc_drew _ _ | exact Txt.Le.alloc _ _), ?_⟩))
          refine Txt.tl_loadS (v := .string B) (by rfl) (by rfl) (by rfl) (by kernel_rfl) (fun _ h => h) ?_
          simp only [Act.put, List.setIfInBounds_toArray, List.set_cons_zero, List.set_cons_succ]
          repeat (first
            | (refine Txt.tl_pure (v := ?_) (by rfl) ?_ ?_; rotate_left; (focus (intro _; go_simp; try with_reducible rfl)); simp only [Act.put, List.setIfInBounds_toArray, List.set_cons_zero, List.set_cons_succ])
            | (refine Txt.tl_skip (by rfl) trivial ?_; simp only [Act.put, List.setIfInBounds_toArray, List.set_cons_zero, List.set_cons_succ])
            | (refine Txt.tl_load (v := ?_) (by rfl) (by rfl) (by rfl) (by kernel_rfl) ?_ ?_; rotate_left; (focus (first | assumption | (go_simp; done) | (go_simp; with_reducible rfl))); simp only [Act.put, List.setIfInBounds_toArray, List.set_cons_zero, List.set_cons_succ])
            | (refine Txt.tl_alloc (by rfl) ?_; go_simp; refine ⟨by (first | exact Txt.Le.alloc_drew _ _ | exact Txt.Le.alloc _ _), ?_⟩))
          refine Txt.tl_call Try.func62 (by kernel_rfl) (by kernel_rfl) (by rfl) (by rfl) (by rfl) (rmost_any _ 2 (by decide) 256 (by decide)) ?_
          rintro e w9 ⟨rfl, rfl⟩
          refine ⟨_, rfl, g2, ?_⟩
          simp only [Act.put, List.setIfInBounds_toArray, List.set_cons_zero, List.set_cons_succ]
          repeat (first
            | (refine Txt.tl_pure (v := ?_) (by rfl) ?_ ?_; rotate_left; (focus (intro _; go_simp; try with_reducible rfl)); simp only [Act.put, List.setIfInBounds_toArray, List.set_cons_zero, List.set_cons_succ])
            | (refine Txt.tl_skip (by rfl) trivial ?_; simp only [Act.put, List.setIfInBounds_toArray, List.set_cons_zero, List.set_cons_succ])
            | (refine Txt.tl_load (v := ?_) (by rfl) (by rfl) (by rfl) (by kernel_rfl) ?_ ?_; rotate_left; (focus (first | assumption | (go_simp; done) | (go_simp; with_reducible rfl))); simp only [Act.put, List.setIfInBounds_toArray, List.set_cons_zero, List.set_cons_succ])
            | (refine Txt.tl_alloc (by rfl) ?_; go_simp; refine ⟨by (first | exact Txt.Le.alloc_drew _ _ | exact Txt.Le.alloc _ _), ?_⟩))
          refine Txt.tl_nil ?_
          go_wp2
          go_ret
          exact ⟨rfl, ((Keep.refl _ _).alloc _).drew⟩
    · have hcmp := neq_z c hc _ (ne_zt hz)
      have e : ck 2 ByteArray.empty B c = 4 := by simp [ck, pT, pC, pB, pE, ht, hz]; try omega
      rw [e]
      have Hc : Hid _ := hc
      have hgd := guard_id
      have hh1 : (hs 2).toList.isEmpty = false := by decide +kernel
      have hh2 : ¬ (hs 2).toList = [] := by decide +kernel
      have E0 : Hid _ := EAt.new (K := 2) (T := ByteArray.empty) (B := B) w hc
      generalize hX : (ec 2 ByteArray.empty B c).toArray = X at E0 ⊢
      obtain ⟨g0, g1, g2⟩ := E0.out.cells
      have Hr : Hid _ := E0.out.commit
      clear e hX hc
      try clear hz
      go_enter Try.func24, Try.ntmps24
      go_wp2_with (first | (go_at_call 58; refine (has_any _ 2 (by decide)).mono ?_; rintro e w1 ⟨rfl, rfl⟩) | (go_at_call 59; refine (in_any _ 2 _ _ (by decide) (by decide) rfl).mono ?_; rintro e w1 ⟨rfl, rfl⟩) | (go_at_call 61; refine (Tp.rkind_any _ _ hT).mono ?_; rintro e w2 ⟨rfl, k1⟩; have HKK : Hid _ := ((Keep.refl (fun _ => False) w).alloc _).trans k1; have E0 : Hid _ := E0.out.calm k1; clear k1; obtain ⟨g0, g1, g2⟩ := E0.out.cells; have Hr : Hid _ := E0.out.commit) | (refine wl_loadG (by rfl) rfl rfl Hc.out Hr.out ?_; simp only [Act.put, List.setIfInBounds_toArray, List.set_cons_zero, List.set_cons_succ]))
      go_ret
      exact ⟨rfl, ((Keep.refl _ _).alloc _)⟩
  · have ht1 := list_ne ht
    have ht2 := list_ne2 ht
    have e : ck 2 T B c = 4 := by simp [ck, pT, pC, pB, pE, ht]; try omega
    rw [e]
    have Hc : Hid _ := hc
    have hgd := guard_id
    have hh1 : (hs 2).toList.isEmpty = false := by decide +kernel
    have hh2 : ¬ (hs 2).toList = [] := by decide +kernel
    have E0 : Hid _ := EAt.new (K := 2) (T := T) (B := B) w hc
    generalize hX : (ec 2 T B c).toArray = X at E0 ⊢
    obtain ⟨g0, g1, g2⟩ := E0.out.cells
    have Hr : Hid _ := E0.out.commit
    clear e hX hc
    try clear hz
    go_enter Try.func24, Try.ntmps24
    go_wp2_with (first | (go_at_call 58; refine (has_any _ 2 (by decide)).mono ?_; rintro e w1 ⟨rfl, rfl⟩) | (go_at_call 59; refine (in_any _ 2 _ _ (by decide) (by decide) rfl).mono ?_; rintro e w1 ⟨rfl, rfl⟩) | (go_at_call 61; refine (Tp.rkind_any _ _ hT).mono ?_; rintro e w2 ⟨rfl, k1⟩; have HKK : Hid _ := ((Keep.refl (fun _ => False) w).alloc _).trans k1; have E0 : Hid _ := E0.out.calm k1; clear k1; obtain ⟨g0, g1, g2⟩ := E0.out.cells; have Hr : Hid _ := E0.out.commit) | (refine wl_loadG (by rfl) rfl rfl Hc.out Hr.out ?_; simp only [Act.put, List.setIfInBounds_toArray, List.set_cons_zero, List.set_cons_succ]))
    go_ret
    exact ⟨rfl, ((Keep.refl _ _).alloc _)⟩
set_option maxRecDepth 100000 in
set_option maxHeartbeats 2000000 in
theorem rcheck_3 (w : World) (T B : ByteArray) (c : List UInt8) (hc : c.length = 32) (hT : T.size ≤ maxLen) (hB : B.size ≤ maxLen) :
    Calls Try.prog 24 #[.agg (ec 3 T B c).toArray] w fun e w' => e = .returned (.int .i64 (ck 3 T B c)) ∧ Keep (fun _ => False) w w' := by
  unfold maxLen at hB
  by_cases ht : T.size = 0
  · obtain rfl := empty_of ht
    by_cases hz : c = Z32
    · have hcmp := neq_z c hc _ (ne_zf hz)
      by_cases hb : B.size = 0
      · obtain rfl := empty_of hb
        have e : ck 3 ByteArray.empty ByteArray.empty c = 4 := by simp [ck, pT, pC, pB, pE, ht, hz, hb]; try omega
        rw [e]
        have Hc : Hid _ := hc
        have hgd := guard_id
        have hh1 : (hs 3).toList.isEmpty = false := by decide +kernel
        have hh2 : ¬ (hs 3).toList = [] := by decide +kernel
        have E0 : Hid _ := EAt.new (K := 3) (T := ByteArray.empty) (B := ByteArray.empty) w hc
        generalize hX : (ec 3 ByteArray.empty ByteArray.empty c).toArray = X at E0 ⊢
        obtain ⟨g0, g1, g2⟩ := E0.out.cells
        have Hr : Hid _ := E0.out.commit
        clear e hX hc
        try clear hz
        go_enter Try.func24, Try.ntmps24
        go_wp2_with (first | (go_at_call 58; refine (has_any _ 3 (by decide)).mono ?_; rintro e w1 ⟨rfl, rfl⟩) | (go_at_call 59; refine (in_any _ 3 _ _ (by decide) (by decide) rfl).mono ?_; rintro e w1 ⟨rfl, rfl⟩) | (go_at_call 61; refine (Tp.rkind_any _ _ hT).mono ?_; rintro e w2 ⟨rfl, k1⟩; have HKK : Hid _ := ((Keep.refl (fun _ => False) w).alloc _).trans k1; have E0 : Hid _ := E0.out.calm k1; clear k1; obtain ⟨g0, g1, g2⟩ := E0.out.cells; have Hr : Hid _ := E0.out.commit) | (refine wl_loadG (by rfl) rfl rfl Hc.out Hr.out ?_; simp only [Act.put, List.setIfInBounds_toArray, List.set_cons_zero, List.set_cons_succ]))
        go_ret
        exact ⟨rfl, ((Keep.refl _ _).alloc _)⟩
      · have hb1 := list_ne hb
        have hb2 := list_ne2 hb
        by_cases hm : 512 < B.size
        · skip
          have e : ck 3 ByteArray.empty B c = 3 := by simp [ck, pT, pC, pB, pE, ht, hz, hb, hm]; try omega
          rw [e]
          have Hc : Hid _ := hc
          have hgd := guard_id
          have hh1 : (hs 3).toList.isEmpty = false := by decide +kernel
          have hh2 : ¬ (hs 3).toList = [] := by decide +kernel
          have E0 : Hid _ := EAt.new (K := 3) (T := ByteArray.empty) (B := B) w hc
          generalize hX : (ec 3 ByteArray.empty B c).toArray = X at E0 ⊢
          obtain ⟨g0, g1, g2⟩ := E0.out.cells
          have Hr : Hid _ := E0.out.commit
          clear e hX hc
          try clear hz
          go_enter Try.func24, Try.ntmps24
          go_wp2_with (first | (go_at_call 58; refine (has_any _ 3 (by decide)).mono ?_; rintro e w1 ⟨rfl, rfl⟩) | (go_at_call 59; refine (in_any _ 3 _ _ (by decide) (by decide) rfl).mono ?_; rintro e w1 ⟨rfl, rfl⟩) | (go_at_call 61; refine (Tp.rkind_any _ _ hT).mono ?_; rintro e w2 ⟨rfl, k1⟩; have HKK : Hid _ := ((Keep.refl (fun _ => False) w).alloc _).trans k1; have E0 : Hid _ := E0.out.calm k1; clear k1; obtain ⟨g0, g1, g2⟩ := E0.out.cells; have Hr : Hid _ := E0.out.commit) | (refine wl_loadG (by rfl) rfl rfl Hc.out Hr.out ?_; simp only [Act.put, List.setIfInBounds_toArray, List.set_cons_zero, List.set_cons_succ]))
          refine Txt.wp_region_text (fun w' => w'.cell? ⟨w.heap.size, 2, none⟩ = some (.string B)) [0, 4, 0, 0, 2, 0, 0, 1, 4, 0, 0] (by kernel_rfl) (by kernel_rfl) g2 ?_
          repeat (first
            | (refine Txt.tl_pure (v := ?_) (by rfl) ?_ ?_; rotate_left; (focus (intro _; go_simp; try with_reducible rfl)); simp only [Act.put, List.setIfInBounds_toArray, List.set_cons_zero, List.set_cons_succ])
            | (refine Txt.tl_skip (by rfl) trivial ?_; simp only [Act.put, List.setIfInBounds_toArray, List.set_cons_zero, List.set_cons_succ])
            | (refine Txt.tl_load (v := ?_) (by rfl) (by rfl) (by rfl) (by kernel_rfl) ?_ ?_; rotate_left; (focus (first | assumption | (go_simp; done) | (go_simp; with_reducible rfl))); simp only [Act.put, List.setIfInBounds_toArray, List.set_cons_zero, List.set_cons_succ])
            | (refine Txt.tl_alloc (by rfl) ?_; go_simp; refine ⟨by (first | exact Txt.Le.alloc_drew _ _ | exact Txt.Le.alloc _ _), ?_⟩))
          refine Txt.tl_call Try.func59 (by kernel_rfl) (by kernel_rfl) (by rfl) (by rfl) (by rfl) (in_any _ 3 66 true (by decide) (by decide) rfl) ?_
          rintro e w9 ⟨rfl, rfl⟩
          refine ⟨_, rfl, g2, ?_⟩
          simp only [Act.put, List.setIfInBounds_toArray, List.set_cons_zero, List.set_cons_succ]
          repeat (first
            | (refine Txt.tl_pure (v := ?_) (by rfl) ?_ ?_; rotate_left; (focus (intro _; go_simp; try with_reducible rfl)); simp only [Act.put, List.setIfInBounds_toArray, List.set_cons_zero, List.set_cons_succ])
            | (refine Txt.tl_skip (by rfl) trivial ?_; simp only [Act.put, List.setIfInBounds_toArray, List.set_cons_zero, List.set_cons_succ])
            | (refine Txt.tl_load (v := ?_) (by rfl) (by rfl) (by rfl) (by kernel_rfl) ?_ ?_; rotate_left; (focus (first | assumption | (go_simp; done) | (go_simp; with_reducible rfl))); simp only [Act.put, List.setIfInBounds_toArray, List.set_cons_zero, List.set_cons_succ])
            | (refine Txt.tl_alloc (by rfl) ?_; go_simp; refine ⟨by (first | exact Txt.Le.alloc_drew _ _ | exact Txt.Le.alloc _ _), ?_⟩))
          refine Txt.tl_loadS (v := .string B) (by rfl) (by rfl) (by rfl) (by kernel_rfl) (fun _ h => h) ?_
          simp only [Act.put, List.setIfInBounds_toArray, List.set_cons_zero, List.set_cons_succ]
          repeat (first
            | (refine Txt.tl_pure (v := ?_) (by rfl) ?_ ?_; rotate_left; (focus (intro _; go_simp; try with_reducible rfl)); simp only [Act.put, List.setIfInBounds_toArray, List.set_cons_zero, List.set_cons_succ])
            | (refine Txt.tl_skip (by rfl) trivial ?_; simp only [Act.put, List.setIfInBounds_toArray, List.set_cons_zero, List.set_cons_succ])
            | (refine Txt.tl_load (v := ?_) (by rfl) (by rfl) (by rfl) (by kernel_rfl) ?_ ?_; rotate_left; (focus (first | assumption | (go_simp; done) | (go_simp; with_reducible rfl))); simp only [Act.put, List.setIfInBounds_toArray, List.set_cons_zero, List.set_cons_succ])
            | (refine Txt.tl_alloc (by rfl) ?_; go_simp; refine ⟨by (first | exact Txt.Le.alloc_drew _ _ | exact Txt.Le.alloc _ _), ?_⟩))
          refine Txt.tl_call Try.func62 (by kernel_rfl) (by kernel_rfl) (by rfl) (by rfl) (by rfl) (rmost_any _ 3 (by decide) 512 (by decide)) ?_
          rintro e w9 ⟨rfl, rfl⟩
          refine ⟨_, rfl, g2, ?_⟩
          simp only [Act.put, List.setIfInBounds_toArray, List.set_cons_zero, List.set_cons_succ]
          repeat (first
            | (refine Txt.tl_pure (v := ?_) (by rfl) ?_ ?_; rotate_left; (focus (intro _; go_simp; try with_reducible rfl)); simp only [Act.put, List.setIfInBounds_toArray, List.set_cons_zero, List.set_cons_succ])
            | (refine Txt.tl_skip (by rfl) trivial ?_; simp only [Act.put, List.setIfInBounds_toArray, List.set_cons_zero, List.set_cons_succ])
            | (refine Txt.tl_load (v := ?_) (by rfl) (by rfl) (by rfl) (by kernel_rfl) ?_ ?_; rotate_left; (focus (first | assumption | (go_simp; done) | (go_simp; with_reducible rfl))); simp only [Act.put, List.setIfInBounds_toArray, List.set_cons_zero, List.set_cons_succ])
            | (refine Txt.tl_alloc (by rfl) ?_; go_simp; refine ⟨by (first | exact Txt.Le.alloc_drew _ _ | exact Txt.Le.alloc _ _), ?_⟩))
          refine Txt.tl_nil ?_
          go_wp2
          go_ret
          exact ⟨rfl, ((Keep.refl _ _).alloc _).drew⟩
        · skip
          have e : ck 3 ByteArray.empty B c = 0 := by simp [ck, pT, pC, pB, pE, ht, hz, hb, hm]; try omega
          rw [e]
          have Hc : Hid _ := hc
          have hgd := guard_id
          have hh1 : (hs 3).toList.isEmpty = false := by decide +kernel
          have hh2 : ¬ (hs 3).toList = [] := by decide +kernel
          have E0 : Hid _ := EAt.new (K := 3) (T := ByteArray.empty) (B := B) w hc
          generalize hX : (ec 3 ByteArray.empty B c).toArray = X at E0 ⊢
          obtain ⟨g0, g1, g2⟩ := E0.out.cells
          have Hr : Hid _ := E0.out.commit
          clear e hX hc
          try clear hz
          go_enter Try.func24, Try.ntmps24
          go_wp2_with (first | (go_at_call 58; refine (has_any _ 3 (by decide)).mono ?_; rintro e w1 ⟨rfl, rfl⟩) | (go_at_call 59; refine (in_any _ 3 _ _ (by decide) (by decide) rfl).mono ?_; rintro e w1 ⟨rfl, rfl⟩) | (go_at_call 61; refine (Tp.rkind_any _ _ hT).mono ?_; rintro e w2 ⟨rfl, k1⟩; have HKK : Hid _ := ((Keep.refl (fun _ => False) w).alloc _).trans k1; have E0 : Hid _ := E0.out.calm k1; clear k1; obtain ⟨g0, g1, g2⟩ := E0.out.cells; have Hr : Hid _ := E0.out.commit) | (refine wl_loadG (by rfl) rfl rfl Hc.out Hr.out ?_; simp only [Act.put, List.setIfInBounds_toArray, List.set_cons_zero, List.set_cons_succ]))
          refine Txt.wp_region_text (fun w' => w'.cell? ⟨w.heap.size, 2, none⟩ = some (.string B)) [0, 4, 0, 0, 2, 0, 0, 1, 4, 0, 0] (by kernel_rfl) (by kernel_rfl) g2 ?_
          repeat (first
            | (refine Txt.tl_pure (v := ?_) (by rfl) ?_ ?_; rotate_left; (focus (intro _; go_simp; try with_reducible rfl)); simp only [Act.put, List.setIfInBounds_toArray, List.set_cons_zero, List.set_cons_succ])
            | (refine Txt.tl_skip (by rfl) trivial ?_; simp only [Act.put, List.setIfInBounds_toArray, List.set_cons_zero, List.set_cons_succ])
            | (refine Txt.tl_load (v := ?_) (by rfl) (by rfl) (by rfl) (by kernel_rfl) ?_ ?_; rotate_left; (focus (first | assumption | (go_simp; done) | (go_simp; with_reducible rfl))); simp only [Act.put, List.setIfInBounds_toArray, List.set_cons_zero, List.set_cons_succ])
            | (refine Txt.tl_alloc (by rfl) ?_; go_simp; refine ⟨by (first | exact Txt.Le.alloc_drew _ _ | exact Txt.Le.alloc _ _), ?_⟩))
          refine Txt.tl_call Try.func59 (by kernel_rfl) (by kernel_rfl) (by rfl) (by rfl) (by rfl) (in_any _ 3 66 true (by decide) (by decide) rfl) ?_
          rintro e w9 ⟨rfl, rfl⟩
          refine ⟨_, rfl, g2, ?_⟩
          simp only [Act.put, List.setIfInBounds_toArray, List.set_cons_zero, List.set_cons_succ]
          repeat (first
            | (refine Txt.tl_pure (v := ?_) (by rfl) ?_ ?_; rotate_left; (focus (intro _; go_simp; try with_reducible rfl)); simp only [Act.put, List.setIfInBounds_toArray, List.set_cons_zero, List.set_cons_succ])
            | (refine Txt.tl_skip (by rfl) trivial ?_; simp only [Act.put, List.setIfInBounds_toArray, List.set_cons_zero, List.set_cons_succ])
            | (refine Txt.tl_load (v := ?_) (by rfl) (by rfl) (by rfl) (by kernel_rfl) ?_ ?_; rotate_left; (focus (first | assumption | (go_simp; done) | (go_simp; with_reducible rfl))); simp only [Act.put, List.setIfInBounds_toArray, List.set_cons_zero, List.set_cons_succ])
            | (refine Txt.tl_alloc (by rfl) ?_; go_simp; refine ⟨by (first | exact Txt.Le.alloc_drew _ _ | exact Txt.Le.alloc _ _), ?_⟩))
          refine Txt.tl_loadS (v := .string B) (by rfl) (by rfl) (by rfl) (by kernel_rfl) (fun _ h => h) ?_
          simp only [Act.put, List.setIfInBounds_toArray, List.set_cons_zero, List.set_cons_succ]
          repeat (first
            | (refine Txt.tl_pure (v := ?_) (by rfl) ?_ ?_; rotate_left; (focus (intro _; go_simp; try with_reducible rfl)); simp only [Act.put, List.setIfInBounds_toArray, List.set_cons_zero, List.set_cons_succ])
            | (refine Txt.tl_skip (by rfl) trivial ?_; simp only [Act.put, List.setIfInBounds_toArray, List.set_cons_zero, List.set_cons_succ])
            | (refine Txt.tl_load (v := ?_) (by rfl) (by rfl) (by rfl) (by kernel_rfl) ?_ ?_; rotate_left; (focus (first | assumption | (go_simp; done) | (go_simp; with_reducible rfl))); simp only [Act.put, List.setIfInBounds_toArray, List.set_cons_zero, List.set_cons_succ])
            | (refine Txt.tl_alloc (by rfl) ?_; go_simp; refine ⟨by (first | exact Txt.Le.alloc_drew _ _ | exact Txt.Le.alloc _ _), ?_⟩))
          refine Txt.tl_call Try.func62 (by kernel_rfl) (by kernel_rfl) (by rfl) (by rfl) (by rfl) (rmost_any _ 3 (by decide) 512 (by decide)) ?_
          rintro e w9 ⟨rfl, rfl⟩
          refine ⟨_, rfl, g2, ?_⟩
          simp only [Act.put, List.setIfInBounds_toArray, List.set_cons_zero, List.set_cons_succ]
          repeat (first
            | (refine Txt.tl_pure (v := ?_) (by rfl) ?_ ?_; rotate_left; (focus (intro _; go_simp; try with_reducible rfl)); simp only [Act.put, List.setIfInBounds_toArray, List.set_cons_zero, List.set_cons_succ])
            | (refine Txt.tl_skip (by rfl) trivial ?_; simp only [Act.put, List.setIfInBounds_toArray, List.set_cons_zero, List.set_cons_succ])
            | (refine Txt.tl_load (v := ?_) (by rfl) (by rfl) (by rfl) (by kernel_rfl) ?_ ?_; rotate_left; (focus (first | assumption | (go_simp; done) | (go_simp; with_reducible rfl))); simp only [Act.put, List.setIfInBounds_toArray, List.set_cons_zero, List.set_cons_succ])
            | (refine Txt.tl_alloc (by rfl) ?_; go_simp; refine ⟨by (first | exact Txt.Le.alloc_drew _ _ | exact Txt.Le.alloc _ _), ?_⟩))
          refine Txt.tl_nil ?_
          go_wp2
          go_ret
          exact ⟨rfl, ((Keep.refl _ _).alloc _).drew⟩
    · have hcmp := neq_z c hc _ (ne_zt hz)
      have e : ck 3 ByteArray.empty B c = 4 := by simp [ck, pT, pC, pB, pE, ht, hz]; try omega
      rw [e]
      have Hc : Hid _ := hc
      have hgd := guard_id
      have hh1 : (hs 3).toList.isEmpty = false := by decide +kernel
      have hh2 : ¬ (hs 3).toList = [] := by decide +kernel
      have E0 : Hid _ := EAt.new (K := 3) (T := ByteArray.empty) (B := B) w hc
      generalize hX : (ec 3 ByteArray.empty B c).toArray = X at E0 ⊢
      obtain ⟨g0, g1, g2⟩ := E0.out.cells
      have Hr : Hid _ := E0.out.commit
      clear e hX hc
      try clear hz
      go_enter Try.func24, Try.ntmps24
      go_wp2_with (first | (go_at_call 58; refine (has_any _ 3 (by decide)).mono ?_; rintro e w1 ⟨rfl, rfl⟩) | (go_at_call 59; refine (in_any _ 3 _ _ (by decide) (by decide) rfl).mono ?_; rintro e w1 ⟨rfl, rfl⟩) | (go_at_call 61; refine (Tp.rkind_any _ _ hT).mono ?_; rintro e w2 ⟨rfl, k1⟩; have HKK : Hid _ := ((Keep.refl (fun _ => False) w).alloc _).trans k1; have E0 : Hid _ := E0.out.calm k1; clear k1; obtain ⟨g0, g1, g2⟩ := E0.out.cells; have Hr : Hid _ := E0.out.commit) | (refine wl_loadG (by rfl) rfl rfl Hc.out Hr.out ?_; simp only [Act.put, List.setIfInBounds_toArray, List.set_cons_zero, List.set_cons_succ]))
      go_ret
      exact ⟨rfl, ((Keep.refl _ _).alloc _)⟩
  · have ht1 := list_ne ht
    have ht2 := list_ne2 ht
    have e : ck 3 T B c = 4 := by simp [ck, pT, pC, pB, pE, ht]; try omega
    rw [e]
    have Hc : Hid _ := hc
    have hgd := guard_id
    have hh1 : (hs 3).toList.isEmpty = false := by decide +kernel
    have hh2 : ¬ (hs 3).toList = [] := by decide +kernel
    have E0 : Hid _ := EAt.new (K := 3) (T := T) (B := B) w hc
    generalize hX : (ec 3 T B c).toArray = X at E0 ⊢
    obtain ⟨g0, g1, g2⟩ := E0.out.cells
    have Hr : Hid _ := E0.out.commit
    clear e hX hc
    try clear hz
    go_enter Try.func24, Try.ntmps24
    go_wp2_with (first | (go_at_call 58; refine (has_any _ 3 (by decide)).mono ?_; rintro e w1 ⟨rfl, rfl⟩) | (go_at_call 59; refine (in_any _ 3 _ _ (by decide) (by decide) rfl).mono ?_; rintro e w1 ⟨rfl, rfl⟩) | (go_at_call 61; refine (Tp.rkind_any _ _ hT).mono ?_; rintro e w2 ⟨rfl, k1⟩; have HKK : Hid _ := ((Keep.refl (fun _ => False) w).alloc _).trans k1; have E0 : Hid _ := E0.out.calm k1; clear k1; obtain ⟨g0, g1, g2⟩ := E0.out.cells; have Hr : Hid _ := E0.out.commit) | (refine wl_loadG (by rfl) rfl rfl Hc.out Hr.out ?_; simp only [Act.put, List.setIfInBounds_toArray, List.set_cons_zero, List.set_cons_succ]))
    go_ret
    exact ⟨rfl, ((Keep.refl _ _).alloc _)⟩
set_option maxRecDepth 100000 in
set_option maxHeartbeats 2000000 in
theorem rcheck_5 (w : World) (T B : ByteArray) (c : List UInt8) (hc : c.length = 32) (hT : T.size ≤ maxLen) (hB : B.size ≤ maxLen) :
    Calls Try.prog 24 #[.agg (ec 5 T B c).toArray] w fun e w' => e = .returned (.int .i64 (ck 5 T B c)) ∧ Keep (fun _ => False) w w' := by
  unfold maxLen at hB
  by_cases hz : c = Z32
  · have hcmp := neq_z c hc _ (ne_zf hz)
    by_cases hb : B.size = 0
    · obtain rfl := empty_of hb
      by_cases hk : tk T = 0
      · have hkb : (tk T == 0) = true := by simpa using hk
        have e : ck 5 T ByteArray.empty c = 9 := by simp [ck, pT, pC, pB, pE, hz, hb, hk]; try omega
        rw [e]
        have Hc : Hid _ := hc
        have hgd := guard_id
        have hh1 : (hs 5).toList.isEmpty = false := by decide +kernel
        have hh2 : ¬ (hs 5).toList = [] := by decide +kernel
        have E0 : Hid _ := EAt.new (K := 5) (T := T) (B := ByteArray.empty) w hc
        generalize hX : (ec 5 T ByteArray.empty c).toArray = X at E0 ⊢
        obtain ⟨g0, g1, g2⟩ := E0.out.cells
        have Hr : Hid _ := E0.out.commit
        clear e hX hc
        try clear hz
        go_enter Try.func24, Try.ntmps24
        go_wp2_with (first | (go_at_call 58; refine (has_any _ 5 (by decide)).mono ?_; rintro e w1 ⟨rfl, rfl⟩) | (go_at_call 59; refine (in_any _ 5 _ _ (by decide) (by decide) rfl).mono ?_; rintro e w1 ⟨rfl, rfl⟩) | (go_at_call 61; refine (Tp.rkind_any _ _ hT).mono ?_; rintro e w2 ⟨rfl, k1⟩; have HKK : Hid _ := ((Keep.refl (fun _ => False) w).alloc _).trans k1; have E0 : Hid _ := E0.out.calm k1; clear k1; obtain ⟨g0, g1, g2⟩ := E0.out.cells; have Hr : Hid _ := E0.out.commit) | (refine wl_loadG (by rfl) rfl rfl Hc.out Hr.out ?_; simp only [Act.put, List.setIfInBounds_toArray, List.set_cons_zero, List.set_cons_succ]))
        go_ret
        exact ⟨rfl, HKK.out⟩
      · have hkb : (tk T == 0) = false := by simpa using hk
        have e : ck 5 T ByteArray.empty c = 0 := by simp [ck, pT, pC, pB, pE, hz, hb, hk]; try omega
        rw [e]
        have Hc : Hid _ := hc
        have hgd := guard_id
        have hh1 : (hs 5).toList.isEmpty = false := by decide +kernel
        have hh2 : ¬ (hs 5).toList = [] := by decide +kernel
        have E0 : Hid _ := EAt.new (K := 5) (T := T) (B := ByteArray.empty) w hc
        generalize hX : (ec 5 T ByteArray.empty c).toArray = X at E0 ⊢
        obtain ⟨g0, g1, g2⟩ := E0.out.cells
        have Hr : Hid _ := E0.out.commit
        clear e hX hc
        try clear hz
        go_enter Try.func24, Try.ntmps24
        go_wp2_with (first | (go_at_call 58; refine (has_any _ 5 (by decide)).mono ?_; rintro e w1 ⟨rfl, rfl⟩) | (go_at_call 59; refine (in_any _ 5 _ _ (by decide) (by decide) rfl).mono ?_; rintro e w1 ⟨rfl, rfl⟩) | (go_at_call 61; refine (Tp.rkind_any _ _ hT).mono ?_; rintro e w2 ⟨rfl, k1⟩; have HKK : Hid _ := ((Keep.refl (fun _ => False) w).alloc _).trans k1; have E0 : Hid _ := E0.out.calm k1; clear k1; obtain ⟨g0, g1, g2⟩ := E0.out.cells; have Hr : Hid _ := E0.out.commit) | (refine wl_loadG (by rfl) rfl rfl Hc.out Hr.out ?_; simp only [Act.put, List.setIfInBounds_toArray, List.set_cons_zero, List.set_cons_succ]))
        refine Txt.wp_region_text (fun w' => w'.cell? ⟨w.heap.size, 2, none⟩ = some (.string ByteArray.empty)) [0, 4, 0, 0, 2, 0, 0, 1, 4, 0, 0] (by kernel_rfl) (by kernel_rfl) g2 ?_
        repeat (first
          | (refine Txt.tl_pure (v := ?_) (by rfl) ?_ ?_; rotate_left; (focus (intro _; go_simp; try with_reducible rfl)); simp only [Act.put, List.setIfInBounds_toArray, List.set_cons_zero, List.set_cons_succ])
          | (refine Txt.tl_skip (by rfl) trivial ?_; simp only [Act.put, List.setIfInBounds_toArray, List.set_cons_zero, List.set_cons_succ])
          | (refine Txt.tl_load (v := ?_) (by rfl) (by rfl) (by rfl) (by kernel_rfl) ?_ ?_; rotate_left; (focus (first | assumption | (go_simp; done) | (go_simp; with_reducible rfl))); simp only [Act.put, List.setIfInBounds_toArray, List.set_cons_zero, List.set_cons_succ])
          | (refine Txt.tl_alloc (by rfl) ?_; go_simp; refine ⟨by (first | exact Txt.Le.alloc_drew _ _ | exact Txt.Le.alloc _ _), ?_⟩))
        refine Txt.tl_call Try.func59 (by kernel_rfl) (by kernel_rfl) (by rfl) (by rfl) (by rfl) (in_any _ 5 66 false (by decide) (by decide) rfl) ?_
        rintro e w9 ⟨rfl, rfl⟩
        refine ⟨_, rfl, g2, ?_⟩
        simp only [Act.put, List.setIfInBounds_toArray, List.set_cons_zero, List.set_cons_succ]
        have g2' := g2
        repeat (first
          | (refine Txt.tl_pure (v := ?_) (by rfl) ?_ ?_; rotate_left; (focus (intro _; go_simp; try with_reducible rfl)); simp only [Act.put, List.setIfInBounds_toArray, List.set_cons_zero, List.set_cons_succ])
          | (refine Txt.tl_skip (by rfl) (by first | trivial | assumption) ?_; simp only [Act.put, List.setIfInBounds_toArray, List.set_cons_zero, List.set_cons_succ])
          | (refine Txt.tl_load (v := ?_) (by rfl) (by rfl) (by rfl) (by kernel_rfl) ?_ ?_; rotate_left; (focus (first | assumption | (go_simp; done) | (go_simp; with_reducible rfl))); simp only [Act.put, List.setIfInBounds_toArray, List.set_cons_zero, List.set_cons_succ])
          | (refine Txt.tl_alloc (by rfl) ?_; go_simp; refine ⟨by (first | exact Txt.Le.alloc_drew _ _ | exact Txt.Le.alloc _ _), ?_⟩))
        refine Txt.tl_nil ?_
        go_wp2
        go_ret
        exact ⟨rfl, HKK.out.drew⟩
    · have hb1 := list_ne hb
      have hb2 := list_ne2 hb
      have e : ck 5 T B c = 4 := by simp [ck, pT, pC, pB, pE, hz, hb]; try omega
      rw [e]
      have Hc : Hid _ := hc
      have hgd := guard_id
      have hh1 : (hs 5).toList.isEmpty = false := by decide +kernel
      have hh2 : ¬ (hs 5).toList = [] := by decide +kernel
      have E0 : Hid _ := EAt.new (K := 5) (T := T) (B := B) w hc
      generalize hX : (ec 5 T B c).toArray = X at E0 ⊢
      obtain ⟨g0, g1, g2⟩ := E0.out.cells
      have Hr : Hid _ := E0.out.commit
      clear e hX hc
      try clear hz
      go_enter Try.func24, Try.ntmps24
      go_wp2_with (first | (go_at_call 58; refine (has_any _ 5 (by decide)).mono ?_; rintro e w1 ⟨rfl, rfl⟩) | (go_at_call 59; refine (in_any _ 5 _ _ (by decide) (by decide) rfl).mono ?_; rintro e w1 ⟨rfl, rfl⟩) | (go_at_call 61; refine (Tp.rkind_any _ _ hT).mono ?_; rintro e w2 ⟨rfl, k1⟩; have HKK : Hid _ := ((Keep.refl (fun _ => False) w).alloc _).trans k1; have E0 : Hid _ := E0.out.calm k1; clear k1; obtain ⟨g0, g1, g2⟩ := E0.out.cells; have Hr : Hid _ := E0.out.commit) | (refine wl_loadG (by rfl) rfl rfl Hc.out Hr.out ?_; simp only [Act.put, List.setIfInBounds_toArray, List.set_cons_zero, List.set_cons_succ]))
      go_ret
      exact ⟨rfl, ((Keep.refl _ _).alloc _)⟩
  · have hcmp := neq_z c hc _ (ne_zt hz)
    have e : ck 5 T B c = 4 := by simp [ck, pT, pC, pB, pE, hz]; try omega
    rw [e]
    have Hc : Hid _ := hc
    have hgd := guard_id
    have hh1 : (hs 5).toList.isEmpty = false := by decide +kernel
    have hh2 : ¬ (hs 5).toList = [] := by decide +kernel
    have E0 : Hid _ := EAt.new (K := 5) (T := T) (B := B) w hc
    generalize hX : (ec 5 T B c).toArray = X at E0 ⊢
    obtain ⟨g0, g1, g2⟩ := E0.out.cells
    have Hr : Hid _ := E0.out.commit
    clear e hX hc
    try clear hz
    go_enter Try.func24, Try.ntmps24
    go_wp2_with (first | (go_at_call 58; refine (has_any _ 5 (by decide)).mono ?_; rintro e w1 ⟨rfl, rfl⟩) | (go_at_call 59; refine (in_any _ 5 _ _ (by decide) (by decide) rfl).mono ?_; rintro e w1 ⟨rfl, rfl⟩) | (go_at_call 61; refine (Tp.rkind_any _ _ hT).mono ?_; rintro e w2 ⟨rfl, k1⟩; have HKK : Hid _ := ((Keep.refl (fun _ => False) w).alloc _).trans k1; have E0 : Hid _ := E0.out.calm k1; clear k1; obtain ⟨g0, g1, g2⟩ := E0.out.cells; have Hr : Hid _ := E0.out.commit) | (refine wl_loadG (by rfl) rfl rfl Hc.out Hr.out ?_; simp only [Act.put, List.setIfInBounds_toArray, List.set_cons_zero, List.set_cons_succ]))
    go_ret
    exact ⟨rfl, ((Keep.refl _ _).alloc _)⟩
set_option maxRecDepth 100000 in
set_option maxHeartbeats 2000000 in
theorem rcheck_6 (w : World) (T B : ByteArray) (c : List UInt8) (hc : c.length = 32) (hT : T.size ≤ maxLen) (hB : B.size ≤ maxLen) :
    Calls Try.prog 24 #[.agg (ec 6 T B c).toArray] w fun e w' => e = .returned (.int .i64 (ck 6 T B c)) ∧ Keep (fun _ => False) w w' := by
  unfold maxLen at hB
  by_cases hz : c = Z32
  · have hcmp := neq_z c hc _ (ne_zf hz)
    by_cases hb : B.size = 0
    · obtain rfl := empty_of hb
      by_cases hk : tk T = 0
      · have hkb : (tk T == 0) = true := by simpa using hk
        have e : ck 6 T ByteArray.empty c = 9 := by simp [ck, pT, pC, pB, pE, hz, hb, hk]; try omega
        rw [e]
        have Hc : Hid _ := hc
        have hgd := guard_id
        have hh1 : (hs 6).toList.isEmpty = false := by decide +kernel
        have hh2 : ¬ (hs 6).toList = [] := by decide +kernel
        have E0 : Hid _ := EAt.new (K := 6) (T := T) (B := ByteArray.empty) w hc
        generalize hX : (ec 6 T ByteArray.empty c).toArray = X at E0 ⊢
        obtain ⟨g0, g1, g2⟩ := E0.out.cells
        have Hr : Hid _ := E0.out.commit
        clear e hX hc
        try clear hz
        go_enter Try.func24, Try.ntmps24
        go_wp2_with (first | (go_at_call 58; refine (has_any _ 6 (by decide)).mono ?_; rintro e w1 ⟨rfl, rfl⟩) | (go_at_call 59; refine (in_any _ 6 _ _ (by decide) (by decide) rfl).mono ?_; rintro e w1 ⟨rfl, rfl⟩) | (go_at_call 61; refine (Tp.rkind_any _ _ hT).mono ?_; rintro e w2 ⟨rfl, k1⟩; have HKK : Hid _ := ((Keep.refl (fun _ => False) w).alloc _).trans k1; have E0 : Hid _ := E0.out.calm k1; clear k1; obtain ⟨g0, g1, g2⟩ := E0.out.cells; have Hr : Hid _ := E0.out.commit) | (refine wl_loadG (by rfl) rfl rfl Hc.out Hr.out ?_; simp only [Act.put, List.setIfInBounds_toArray, List.set_cons_zero, List.set_cons_succ]))
        go_ret
        exact ⟨rfl, HKK.out⟩
      · have hkb : (tk T == 0) = false := by simpa using hk
        have e : ck 6 T ByteArray.empty c = 0 := by simp [ck, pT, pC, pB, pE, hz, hb, hk]; try omega
        rw [e]
        have Hc : Hid _ := hc
        have hgd := guard_id
        have hh1 : (hs 6).toList.isEmpty = false := by decide +kernel
        have hh2 : ¬ (hs 6).toList = [] := by decide +kernel
        have E0 : Hid _ := EAt.new (K := 6) (T := T) (B := ByteArray.empty) w hc
        generalize hX : (ec 6 T ByteArray.empty c).toArray = X at E0 ⊢
        obtain ⟨g0, g1, g2⟩ := E0.out.cells
        have Hr : Hid _ := E0.out.commit
        clear e hX hc
        try clear hz
        go_enter Try.func24, Try.ntmps24
        go_wp2_with (first | (go_at_call 58; refine (has_any _ 6 (by decide)).mono ?_; rintro e w1 ⟨rfl, rfl⟩) | (go_at_call 59; refine (in_any _ 6 _ _ (by decide) (by decide) rfl).mono ?_; rintro e w1 ⟨rfl, rfl⟩) | (go_at_call 61; refine (Tp.rkind_any _ _ hT).mono ?_; rintro e w2 ⟨rfl, k1⟩; have HKK : Hid _ := ((Keep.refl (fun _ => False) w).alloc _).trans k1; have E0 : Hid _ := E0.out.calm k1; clear k1; obtain ⟨g0, g1, g2⟩ := E0.out.cells; have Hr : Hid _ := E0.out.commit) | (refine wl_loadG (by rfl) rfl rfl Hc.out Hr.out ?_; simp only [Act.put, List.setIfInBounds_toArray, List.set_cons_zero, List.set_cons_succ]))
        refine Txt.wp_region_text (fun w' => w'.cell? ⟨w.heap.size, 2, none⟩ = some (.string ByteArray.empty)) [0, 4, 0, 0, 2, 0, 0, 1, 4, 0, 0] (by kernel_rfl) (by kernel_rfl) g2 ?_
        repeat (first
          | (refine Txt.tl_pure (v := ?_) (by rfl) ?_ ?_; rotate_left; (focus (intro _; go_simp; try with_reducible rfl)); simp only [Act.put, List.setIfInBounds_toArray, List.set_cons_zero, List.set_cons_succ])
          | (refine Txt.tl_skip (by rfl) trivial ?_; simp only [Act.put, List.setIfInBounds_toArray, List.set_cons_zero, List.set_cons_succ])
          | (refine Txt.tl_load (v := ?_) (by rfl) (by rfl) (by rfl) (by kernel_rfl) ?_ ?_; rotate_left; (focus (first | assumption | (go_simp; done) | (go_simp; with_reducible rfl))); simp only [Act.put, List.setIfInBounds_toArray, List.set_cons_zero, List.set_cons_succ])
          | (refine Txt.tl_alloc (by rfl) ?_; go_simp; refine ⟨by (first | exact Txt.Le.alloc_drew _ _ | exact Txt.Le.alloc _ _), ?_⟩))
        refine Txt.tl_call Try.func59 (by kernel_rfl) (by kernel_rfl) (by rfl) (by rfl) (by rfl) (in_any _ 6 66 false (by decide) (by decide) rfl) ?_
        rintro e w9 ⟨rfl, rfl⟩
        refine ⟨_, rfl, g2, ?_⟩
        simp only [Act.put, List.setIfInBounds_toArray, List.set_cons_zero, List.set_cons_succ]
        have g2' := g2
        repeat (first
          | (refine Txt.tl_pure (v := ?_) (by rfl) ?_ ?_; rotate_left; (focus (intro _; go_simp; try with_reducible rfl)); simp only [Act.put, List.setIfInBounds_toArray, List.set_cons_zero, List.set_cons_succ])
          | (refine Txt.tl_skip (by rfl) (by first | trivial | assumption) ?_; simp only [Act.put, List.setIfInBounds_toArray, List.set_cons_zero, List.set_cons_succ])
          | (refine Txt.tl_load (v := ?_) (by rfl) (by rfl) (by rfl) (by kernel_rfl) ?_ ?_; rotate_left; (focus (first | assumption | (go_simp; done) | (go_simp; with_reducible rfl))); simp only [Act.put, List.setIfInBounds_toArray, List.set_cons_zero, List.set_cons_succ])
          | (refine Txt.tl_alloc (by rfl) ?_; go_simp; refine ⟨by (first | exact Txt.Le.alloc_drew _ _ | exact Txt.Le.alloc _ _), ?_⟩))
        refine Txt.tl_nil ?_
        go_wp2
        go_ret
        exact ⟨rfl, HKK.out.drew⟩
    · have hb1 := list_ne hb
      have hb2 := list_ne2 hb
      have e : ck 6 T B c = 4 := by simp [ck, pT, pC, pB, pE, hz, hb]; try omega
      rw [e]
      have Hc : Hid _ := hc
      have hgd := guard_id
      have hh1 : (hs 6).toList.isEmpty = false := by decide +kernel
      have hh2 : ¬ (hs 6).toList = [] := by decide +kernel
      have E0 : Hid _ := EAt.new (K := 6) (T := T) (B := B) w hc
      generalize hX : (ec 6 T B c).toArray = X at E0 ⊢
      obtain ⟨g0, g1, g2⟩ := E0.out.cells
      have Hr : Hid _ := E0.out.commit
      clear e hX hc
      try clear hz
      go_enter Try.func24, Try.ntmps24
      go_wp2_with (first | (go_at_call 58; refine (has_any _ 6 (by decide)).mono ?_; rintro e w1 ⟨rfl, rfl⟩) | (go_at_call 59; refine (in_any _ 6 _ _ (by decide) (by decide) rfl).mono ?_; rintro e w1 ⟨rfl, rfl⟩) | (go_at_call 61; refine (Tp.rkind_any _ _ hT).mono ?_; rintro e w2 ⟨rfl, k1⟩; have HKK : Hid _ := ((Keep.refl (fun _ => False) w).alloc _).trans k1; have E0 : Hid _ := E0.out.calm k1; clear k1; obtain ⟨g0, g1, g2⟩ := E0.out.cells; have Hr : Hid _ := E0.out.commit) | (refine wl_loadG (by rfl) rfl rfl Hc.out Hr.out ?_; simp only [Act.put, List.setIfInBounds_toArray, List.set_cons_zero, List.set_cons_succ]))
      go_ret
      exact ⟨rfl, ((Keep.refl _ _).alloc _)⟩
  · have hcmp := neq_z c hc _ (ne_zt hz)
    have e : ck 6 T B c = 4 := by simp [ck, pT, pC, pB, pE, hz]; try omega
    rw [e]
    have Hc : Hid _ := hc
    have hgd := guard_id
    have hh1 : (hs 6).toList.isEmpty = false := by decide +kernel
    have hh2 : ¬ (hs 6).toList = [] := by decide +kernel
    have E0 : Hid _ := EAt.new (K := 6) (T := T) (B := B) w hc
    generalize hX : (ec 6 T B c).toArray = X at E0 ⊢
    obtain ⟨g0, g1, g2⟩ := E0.out.cells
    have Hr : Hid _ := E0.out.commit
    clear e hX hc
    try clear hz
    go_enter Try.func24, Try.ntmps24
    go_wp2_with (first | (go_at_call 58; refine (has_any _ 6 (by decide)).mono ?_; rintro e w1 ⟨rfl, rfl⟩) | (go_at_call 59; refine (in_any _ 6 _ _ (by decide) (by decide) rfl).mono ?_; rintro e w1 ⟨rfl, rfl⟩) | (go_at_call 61; refine (Tp.rkind_any _ _ hT).mono ?_; rintro e w2 ⟨rfl, k1⟩; have HKK : Hid _ := ((Keep.refl (fun _ => False) w).alloc _).trans k1; have E0 : Hid _ := E0.out.calm k1; clear k1; obtain ⟨g0, g1, g2⟩ := E0.out.cells; have Hr : Hid _ := E0.out.commit) | (refine wl_loadG (by rfl) rfl rfl Hc.out Hr.out ?_; simp only [Act.put, List.setIfInBounds_toArray, List.set_cons_zero, List.set_cons_succ]))
    go_ret
    exact ⟨rfl, ((Keep.refl _ _).alloc _)⟩
set_option maxRecDepth 100000 in
set_option maxHeartbeats 2000000 in
theorem rcheck_7 (w : World) (T B : ByteArray) (c : List UInt8) (hc : c.length = 32) (hT : T.size ≤ maxLen) (hB : B.size ≤ maxLen) :
    Calls Try.prog 24 #[.agg (ec 7 T B c).toArray] w fun e w' => e = .returned (.int .i64 (ck 7 T B c)) ∧ Keep (fun _ => False) w w' := by
  unfold maxLen at hB
  by_cases hz : c = Z32
  · have hcmp := neq_z c hc _ (ne_zf hz)
    by_cases hk : tk T = 0
    · have hkb : (tk T == 0) = true := by simpa using hk
      have e : ck 7 T B c = 9 := by simp [ck, pT, pC, pB, pE, hz, hk]; try omega
      rw [e]
      have Hc : Hid _ := hc
      have hgd := guard_id
      have hh1 : (hs 7).toList.isEmpty = false := by decide +kernel
      have hh2 : ¬ (hs 7).toList = [] := by decide +kernel
      have E0 : Hid _ := EAt.new (K := 7) (T := T) (B := B) w hc
      generalize hX : (ec 7 T B c).toArray = X at E0 ⊢
      obtain ⟨g0, g1, g2⟩ := E0.out.cells
      have Hr : Hid _ := E0.out.commit
      clear e hX hc
      try clear hz
      go_enter Try.func24, Try.ntmps24
      go_wp2_with (first | (go_at_call 58; refine (has_any _ 7 (by decide)).mono ?_; rintro e w1 ⟨rfl, rfl⟩) | (go_at_call 59; refine (in_any _ 7 _ _ (by decide) (by decide) rfl).mono ?_; rintro e w1 ⟨rfl, rfl⟩) | (go_at_call 61; refine (Tp.rkind_any _ _ hT).mono ?_; rintro e w2 ⟨rfl, k1⟩; have HKK : Hid _ := ((Keep.refl (fun _ => False) w).alloc _).trans k1; have E0 : Hid _ := E0.out.calm k1; clear k1; obtain ⟨g0, g1, g2⟩ := E0.out.cells; have Hr : Hid _ := E0.out.commit) | (refine wl_loadG (by rfl) rfl rfl Hc.out Hr.out ?_; simp only [Act.put, List.setIfInBounds_toArray, List.set_cons_zero, List.set_cons_succ]))
      go_ret
      exact ⟨rfl, HKK.out⟩
    · have hkb : (tk T == 0) = false := by simpa using hk
      by_cases hb : B.size = 0
      · obtain rfl := empty_of hb
        have e : ck 7 T ByteArray.empty c = 0 := by simp [ck, pT, pC, pB, pE, hz, hk, hb]; try omega
        rw [e]
        have Hc : Hid _ := hc
        have hgd := guard_id
        have hh1 : (hs 7).toList.isEmpty = false := by decide +kernel
        have hh2 : ¬ (hs 7).toList = [] := by decide +kernel
        have E0 : Hid _ := EAt.new (K := 7) (T := T) (B := ByteArray.empty) w hc
        generalize hX : (ec 7 T ByteArray.empty c).toArray = X at E0 ⊢
        obtain ⟨g0, g1, g2⟩ := E0.out.cells
        have Hr : Hid _ := E0.out.commit
        clear e hX hc
        try clear hz
        go_enter Try.func24, Try.ntmps24
        go_wp2_with (first | (go_at_call 58; refine (has_any _ 7 (by decide)).mono ?_; rintro e w1 ⟨rfl, rfl⟩) | (go_at_call 59; refine (in_any _ 7 _ _ (by decide) (by decide) rfl).mono ?_; rintro e w1 ⟨rfl, rfl⟩) | (go_at_call 61; refine (Tp.rkind_any _ _ hT).mono ?_; rintro e w2 ⟨rfl, k1⟩; have HKK : Hid _ := ((Keep.refl (fun _ => False) w).alloc _).trans k1; have E0 : Hid _ := E0.out.calm k1; clear k1; obtain ⟨g0, g1, g2⟩ := E0.out.cells; have Hr : Hid _ := E0.out.commit) | (refine wl_loadG (by rfl) rfl rfl Hc.out Hr.out ?_; simp only [Act.put, List.setIfInBounds_toArray, List.set_cons_zero, List.set_cons_succ]))
        refine Txt.wp_region_text (fun w' => w'.cell? ⟨w.heap.size, 2, none⟩ = some (.string ByteArray.empty)) [0, 4, 0, 0, 2, 0, 0, 1, 4, 0, 0] (by kernel_rfl) (by kernel_rfl) g2 ?_
        repeat (first
          | (refine Txt.tl_pure (v := ?_) (by rfl) ?_ ?_; rotate_left; (focus (intro _; go_simp; try with_reducible rfl)); simp only [Act.put, List.setIfInBounds_toArray, List.set_cons_zero, List.set_cons_succ])
          | (refine Txt.tl_skip (by rfl) trivial ?_; simp only [Act.put, List.setIfInBounds_toArray, List.set_cons_zero, List.set_cons_succ])
          | (refine Txt.tl_load (v := ?_) (by rfl) (by rfl) (by rfl) (by kernel_rfl) ?_ ?_; rotate_left; (focus (first | assumption | (go_simp; done) | (go_simp; with_reducible rfl))); simp only [Act.put, List.setIfInBounds_toArray, List.set_cons_zero, List.set_cons_succ])
          | (refine Txt.tl_alloc (by rfl) ?_; go_simp; refine ⟨by (first | exact Txt.Le.alloc_drew _ _ | exact Txt.Le.alloc _ _), ?_⟩))
        refine Txt.tl_call Try.func59 (by kernel_rfl) (by kernel_rfl) (by rfl) (by rfl) (by rfl) (in_any _ 7 66 true (by decide) (by decide) rfl) ?_
        rintro e w9 ⟨rfl, rfl⟩
        refine ⟨_, rfl, g2, ?_⟩
        simp only [Act.put, List.setIfInBounds_toArray, List.set_cons_zero, List.set_cons_succ]
        repeat (first
          | (refine Txt.tl_pure (v := ?_) (by rfl) ?_ ?_; rotate_left; (focus (intro _; go_simp; try with_reducible rfl)); simp only [Act.put, List.setIfInBounds_toArray, List.set_cons_zero, List.set_cons_succ])
          | (refine Txt.tl_skip (by rfl) trivial ?_; simp only [Act.put, List.setIfInBounds_toArray, List.set_cons_zero, List.set_cons_succ])
          | (refine Txt.tl_load (v := ?_) (by rfl) (by rfl) (by rfl) (by kernel_rfl) ?_ ?_; rotate_left; (focus (first | assumption | (go_simp; done) | (go_simp; with_reducible rfl))); simp only [Act.put, List.setIfInBounds_toArray, List.set_cons_zero, List.set_cons_succ])
          | (refine Txt.tl_alloc (by rfl) ?_; go_simp; refine ⟨by (first | exact Txt.Le.alloc_drew _ _ | exact Txt.Le.alloc _ _), ?_⟩))
        refine Txt.tl_loadS (v := .string ByteArray.empty) (by rfl) (by rfl) (by rfl) (by kernel_rfl) (fun _ h => h) ?_
        simp only [Act.put, List.setIfInBounds_toArray, List.set_cons_zero, List.set_cons_succ]
        repeat (first
          | (refine Txt.tl_pure (v := ?_) (by rfl) ?_ ?_; rotate_left; (focus (intro _; go_simp; try with_reducible rfl)); simp only [Act.put, List.setIfInBounds_toArray, List.set_cons_zero, List.set_cons_succ])
          | (refine Txt.tl_skip (by rfl) trivial ?_; simp only [Act.put, List.setIfInBounds_toArray, List.set_cons_zero, List.set_cons_succ])
          | (refine Txt.tl_load (v := ?_) (by rfl) (by rfl) (by rfl) (by kernel_rfl) ?_ ?_; rotate_left; (focus (first | assumption | (go_simp; done) | (go_simp; with_reducible rfl))); simp only [Act.put, List.setIfInBounds_toArray, List.set_cons_zero, List.set_cons_succ])
          | (refine Txt.tl_alloc (by rfl) ?_; go_simp; refine ⟨by (first | exact Txt.Le.alloc_drew _ _ | exact Txt.Le.alloc _ _), ?_⟩))
        refine Txt.tl_call Try.func62 (by kernel_rfl) (by kernel_rfl) (by rfl) (by rfl) (by rfl) (rmost_any _ 7 (by decide) 1048512 (by decide)) ?_
        rintro e w9 ⟨rfl, rfl⟩
        refine ⟨_, rfl, g2, ?_⟩
        simp only [Act.put, List.setIfInBounds_toArray, List.set_cons_zero, List.set_cons_succ]
        repeat (first
          | (refine Txt.tl_pure (v := ?_) (by rfl) ?_ ?_; rotate_left; (focus (intro _; go_simp; try with_reducible rfl)); simp only [Act.put, List.setIfInBounds_toArray, List.set_cons_zero, List.set_cons_succ])
          | (refine Txt.tl_skip (by rfl) trivial ?_; simp only [Act.put, List.setIfInBounds_toArray, List.set_cons_zero, List.set_cons_succ])
          | (refine Txt.tl_load (v := ?_) (by rfl) (by rfl) (by rfl) (by kernel_rfl) ?_ ?_; rotate_left; (focus (first | assumption | (go_simp; done) | (go_simp; with_reducible rfl))); simp only [Act.put, List.setIfInBounds_toArray, List.set_cons_zero, List.set_cons_succ])
          | (refine Txt.tl_alloc (by rfl) ?_; go_simp; refine ⟨by (first | exact Txt.Le.alloc_drew _ _ | exact Txt.Le.alloc _ _), ?_⟩))
        refine Txt.tl_nil ?_
        go_wp2
        go_ret
        exact ⟨rfl, HKK.out.drew⟩
      · have hb1 := list_ne hb
        have hb2 := list_ne2 hb
        by_cases hm : 1048512 < B.size
        · skip
          have e : ck 7 T B c = 3 := by simp [ck, pT, pC, pB, pE, hz, hk, hb, hm]; try omega
          rw [e]
          have Hc : Hid _ := hc
          have hgd := guard_id
          have hh1 : (hs 7).toList.isEmpty = false := by decide +kernel
          have hh2 : ¬ (hs 7).toList = [] := by decide +kernel
          have E0 : Hid _ := EAt.new (K := 7) (T := T) (B := B) w hc
          generalize hX : (ec 7 T B c).toArray = X at E0 ⊢
          obtain ⟨g0, g1, g2⟩ := E0.out.cells
          have Hr : Hid _ := E0.out.commit
          clear e hX hc
          try clear hz
          go_enter Try.func24, Try.ntmps24
          go_wp2_with (first | (go_at_call 58; refine (has_any _ 7 (by decide)).mono ?_; rintro e w1 ⟨rfl, rfl⟩) | (go_at_call 59; refine (in_any _ 7 _ _ (by decide) (by decide) rfl).mono ?_; rintro e w1 ⟨rfl, rfl⟩) | (go_at_call 61; refine (Tp.rkind_any _ _ hT).mono ?_; rintro e w2 ⟨rfl, k1⟩; have HKK : Hid _ := ((Keep.refl (fun _ => False) w).alloc _).trans k1; have E0 : Hid _ := E0.out.calm k1; clear k1; obtain ⟨g0, g1, g2⟩ := E0.out.cells; have Hr : Hid _ := E0.out.commit) | (refine wl_loadG (by rfl) rfl rfl Hc.out Hr.out ?_; simp only [Act.put, List.setIfInBounds_toArray, List.set_cons_zero, List.set_cons_succ]))
          refine Txt.wp_region_text (fun w' => w'.cell? ⟨w.heap.size, 2, none⟩ = some (.string B)) [0, 4, 0, 0, 2, 0, 0, 1, 4, 0, 0] (by kernel_rfl) (by kernel_rfl) g2 ?_
          repeat (first
            | (refine Txt.tl_pure (v := ?_) (by rfl) ?_ ?_; rotate_left; (focus (intro _; go_simp; try with_reducible rfl)); simp only [Act.put, List.setIfInBounds_toArray, List.set_cons_zero, List.set_cons_succ])
            | (refine Txt.tl_skip (by rfl) trivial ?_; simp only [Act.put, List.setIfInBounds_toArray, List.set_cons_zero, List.set_cons_succ])
            | (refine Txt.tl_load (v := ?_) (by rfl) (by rfl) (by rfl) (by kernel_rfl) ?_ ?_; rotate_left; (focus (first | assumption | (go_simp; done) | (go_simp; with_reducible rfl))); simp only [Act.put, List.setIfInBounds_toArray, List.set_cons_zero, List.set_cons_succ])
            | (refine Txt.tl_alloc (by rfl) ?_; go_simp; refine ⟨by (first | exact Txt.Le.alloc_drew _ _ | exact Txt.Le.alloc _ _), ?_⟩))
          refine Txt.tl_call Try.func59 (by kernel_rfl) (by kernel_rfl) (by rfl) (by rfl) (by rfl) (in_any _ 7 66 true (by decide) (by decide) rfl) ?_
          rintro e w9 ⟨rfl, rfl⟩
          refine ⟨_, rfl, g2, ?_⟩
          simp only [Act.put, List.setIfInBounds_toArray, List.set_cons_zero, List.set_cons_succ]
          repeat (first
            | (refine Txt.tl_pure (v := ?_) (by rfl) ?_ ?_; rotate_left; (focus (intro _; go_simp; try with_reducible rfl)); simp only [Act.put, List.setIfInBounds_toArray, List.set_cons_zero, List.set_cons_succ])
            | (refine Txt.tl_skip (by rfl) trivial ?_; simp only [Act.put, List.setIfInBounds_toArray, List.set_cons_zero, List.set_cons_succ])
            | (refine Txt.tl_load (v := ?_) (by rfl) (by rfl) (by rfl) (by kernel_rfl) ?_ ?_; rotate_left; (focus (first | assumption | (go_simp; done) | (go_simp; with_reducible rfl))); simp only [Act.put, List.setIfInBounds_toArray, List.set_cons_zero, List.set_cons_succ])
            | (refine Txt.tl_alloc (by rfl) ?_; go_simp; refine ⟨by (first | exact Txt.Le.alloc_drew _ _ | exact Txt.Le.alloc _ _), ?_⟩))
          refine Txt.tl_loadS (v := .string B) (by rfl) (by rfl) (by rfl) (by kernel_rfl) (fun _ h => h) ?_
          simp only [Act.put, List.setIfInBounds_toArray, List.set_cons_zero, List.set_cons_succ]
          repeat (first
            | (refine Txt.tl_pure (v := ?_) (by rfl) ?_ ?_; rotate_left; (focus (intro _; go_simp; try with_reducible rfl)); simp only [Act.put, List.setIfInBounds_toArray, List.set_cons_zero, List.set_cons_succ])
            | (refine Txt.tl_skip (by rfl) trivial ?_; simp only [Act.put, List.setIfInBounds_toArray, List.set_cons_zero, List.set_cons_succ])
            | (refine Txt.tl_load (v := ?_) (by rfl) (by rfl) (by rfl) (by kernel_rfl) ?_ ?_; rotate_left; (focus (first | assumption | (go_simp; done) | (go_simp; with_reducible rfl))); simp only [Act.put, List.setIfInBounds_toArray, List.set_cons_zero, List.set_cons_succ])
            | (refine Txt.tl_alloc (by rfl) ?_; go_simp; refine ⟨by (first | exact Txt.Le.alloc_drew _ _ | exact Txt.Le.alloc _ _), ?_⟩))
          refine Txt.tl_call Try.func62 (by kernel_rfl) (by kernel_rfl) (by rfl) (by rfl) (by rfl) (rmost_any _ 7 (by decide) 1048512 (by decide)) ?_
          rintro e w9 ⟨rfl, rfl⟩
          refine ⟨_, rfl, g2, ?_⟩
          simp only [Act.put, List.setIfInBounds_toArray, List.set_cons_zero, List.set_cons_succ]
          repeat (first
            | (refine Txt.tl_pure (v := ?_) (by rfl) ?_ ?_; rotate_left; (focus (intro _; go_simp; try with_reducible rfl)); simp only [Act.put, List.setIfInBounds_toArray, List.set_cons_zero, List.set_cons_succ])
            | (refine Txt.tl_skip (by rfl) trivial ?_; simp only [Act.put, List.setIfInBounds_toArray, List.set_cons_zero, List.set_cons_succ])
            | (refine Txt.tl_load (v := ?_) (by rfl) (by rfl) (by rfl) (by kernel_rfl) ?_ ?_; rotate_left; (focus (first | assumption | (go_simp; done) | (go_simp; with_reducible rfl))); simp only [Act.put, List.setIfInBounds_toArray, List.set_cons_zero, List.set_cons_succ])
            | (refine Txt.tl_alloc (by rfl) ?_; go_simp; refine ⟨by (first | exact Txt.Le.alloc_drew _ _ | exact Txt.Le.alloc _ _), ?_⟩))
          refine Txt.tl_nil ?_
          go_wp2
          go_ret
          exact ⟨rfl, HKK.out.drew⟩
        · skip
          have e : ck 7 T B c = 0 := by simp [ck, pT, pC, pB, pE, hz, hk, hb, hm]; try omega
          rw [e]
          have Hc : Hid _ := hc
          have hgd := guard_id
          have hh1 : (hs 7).toList.isEmpty = false := by decide +kernel
          have hh2 : ¬ (hs 7).toList = [] := by decide +kernel
          have E0 : Hid _ := EAt.new (K := 7) (T := T) (B := B) w hc
          generalize hX : (ec 7 T B c).toArray = X at E0 ⊢
          obtain ⟨g0, g1, g2⟩ := E0.out.cells
          have Hr : Hid _ := E0.out.commit
          clear e hX hc
          try clear hz
          go_enter Try.func24, Try.ntmps24
          go_wp2_with (first | (go_at_call 58; refine (has_any _ 7 (by decide)).mono ?_; rintro e w1 ⟨rfl, rfl⟩) | (go_at_call 59; refine (in_any _ 7 _ _ (by decide) (by decide) rfl).mono ?_; rintro e w1 ⟨rfl, rfl⟩) | (go_at_call 61; refine (Tp.rkind_any _ _ hT).mono ?_; rintro e w2 ⟨rfl, k1⟩; have HKK : Hid _ := ((Keep.refl (fun _ => False) w).alloc _).trans k1; have E0 : Hid _ := E0.out.calm k1; clear k1; obtain ⟨g0, g1, g2⟩ := E0.out.cells; have Hr : Hid _ := E0.out.commit) | (refine wl_loadG (by rfl) rfl rfl Hc.out Hr.out ?_; simp only [Act.put, List.setIfInBounds_toArray, List.set_cons_zero, List.set_cons_succ]))
          refine Txt.wp_region_text (fun w' => w'.cell? ⟨w.heap.size, 2, none⟩ = some (.string B)) [0, 4, 0, 0, 2, 0, 0, 1, 4, 0, 0] (by kernel_rfl) (by kernel_rfl) g2 ?_
          repeat (first
            | (refine Txt.tl_pure (v := ?_) (by rfl) ?_ ?_; rotate_left; (focus (intro _; go_simp; try with_reducible rfl)); simp only [Act.put, List.setIfInBounds_toArray, List.set_cons_zero, List.set_cons_succ])
            | (refine Txt.tl_skip (by rfl) trivial ?_; simp only [Act.put, List.setIfInBounds_toArray, List.set_cons_zero, List.set_cons_succ])
            | (refine Txt.tl_load (v := ?_) (by rfl) (by rfl) (by rfl) (by kernel_rfl) ?_ ?_; rotate_left; (focus (first | assumption | (go_simp; done) | (go_simp; with_reducible rfl))); simp only [Act.put, List.setIfInBounds_toArray, List.set_cons_zero, List.set_cons_succ])
            | (refine Txt.tl_alloc (by rfl) ?_; go_simp; refine ⟨by (first | exact Txt.Le.alloc_drew _ _ | exact Txt.Le.alloc _ _), ?_⟩))
          refine Txt.tl_call Try.func59 (by kernel_rfl) (by kernel_rfl) (by rfl) (by rfl) (by rfl) (in_any _ 7 66 true (by decide) (by decide) rfl) ?_
          rintro e w9 ⟨rfl, rfl⟩
          refine ⟨_, rfl, g2, ?_⟩
          simp only [Act.put, List.setIfInBounds_toArray, List.set_cons_zero, List.set_cons_succ]
          repeat (first
            | (refine Txt.tl_pure (v := ?_) (by rfl) ?_ ?_; rotate_left; (focus (intro _; go_simp; try with_reducible rfl)); simp only [Act.put, List.setIfInBounds_toArray, List.set_cons_zero, List.set_cons_succ])
            | (refine Txt.tl_skip (by rfl) trivial ?_; simp only [Act.put, List.setIfInBounds_toArray, List.set_cons_zero, List.set_cons_succ])
            | (refine Txt.tl_load (v := ?_) (by rfl) (by rfl) (by rfl) (by kernel_rfl) ?_ ?_; rotate_left; (focus (first | assumption | (go_simp; done) | (go_simp; with_reducible rfl))); simp only [Act.put, List.setIfInBounds_toArray, List.set_cons_zero, List.set_cons_succ])
            | (refine Txt.tl_alloc (by rfl) ?_; go_simp; refine ⟨by (first | exact Txt.Le.alloc_drew _ _ | exact Txt.Le.alloc _ _), ?_⟩))
          refine Txt.tl_loadS (v := .string B) (by rfl) (by rfl) (by rfl) (by kernel_rfl) (fun _ h => h) ?_
          simp only [Act.put, List.setIfInBounds_toArray, List.set_cons_zero, List.set_cons_succ]
          repeat (first
            | (refine Txt.tl_pure (v := ?_) (by rfl) ?_ ?_; rotate_left; (focus (intro _; go_simp; try with_reducible rfl)); simp only [Act.put, List.setIfInBounds_toArray, List.set_cons_zero, List.set_cons_succ])
            | (refine Txt.tl_skip (by rfl) trivial ?_; simp only [Act.put, List.setIfInBounds_toArray, List.set_cons_zero, List.set_cons_succ])
            | (refine Txt.tl_load (v := ?_) (by rfl) (by rfl) (by rfl) (by kernel_rfl) ?_ ?_; rotate_left; (focus (first | assumption | (go_simp; done) | (go_simp; with_reducible rfl))); simp only [Act.put, List.setIfInBounds_toArray, List.set_cons_zero, List.set_cons_succ])
            | (refine Txt.tl_alloc (by rfl) ?_; go_simp; refine ⟨by (first | exact Txt.Le.alloc_drew _ _ | exact Txt.Le.alloc _ _), ?_⟩))
          refine Txt.tl_call Try.func62 (by kernel_rfl) (by kernel_rfl) (by rfl) (by rfl) (by rfl) (rmost_any _ 7 (by decide) 1048512 (by decide)) ?_
          rintro e w9 ⟨rfl, rfl⟩
          refine ⟨_, rfl, g2, ?_⟩
          simp only [Act.put, List.setIfInBounds_toArray, List.set_cons_zero, List.set_cons_succ]
          repeat (first
            | (refine Txt.tl_pure (v := ?_) (by rfl) ?_ ?_; rotate_left; (focus (intro _; go_simp; try with_reducible rfl)); simp only [Act.put, List.setIfInBounds_toArray, List.set_cons_zero, List.set_cons_succ])
            | (refine Txt.tl_skip (by rfl) trivial ?_; simp only [Act.put, List.setIfInBounds_toArray, List.set_cons_zero, List.set_cons_succ])
            | (refine Txt.tl_load (v := ?_) (by rfl) (by rfl) (by rfl) (by kernel_rfl) ?_ ?_; rotate_left; (focus (first | assumption | (go_simp; done) | (go_simp; with_reducible rfl))); simp only [Act.put, List.setIfInBounds_toArray, List.set_cons_zero, List.set_cons_succ])
            | (refine Txt.tl_alloc (by rfl) ?_; go_simp; refine ⟨by (first | exact Txt.Le.alloc_drew _ _ | exact Txt.Le.alloc _ _), ?_⟩))
          refine Txt.tl_nil ?_
          go_wp2
          go_ret
          exact ⟨rfl, HKK.out.drew⟩
  · have hcmp := neq_z c hc _ (ne_zt hz)
    have e : ck 7 T B c = 4 := by simp [ck, pT, pC, pB, pE, hz]; try omega
    rw [e]
    have Hc : Hid _ := hc
    have hgd := guard_id
    have hh1 : (hs 7).toList.isEmpty = false := by decide +kernel
    have hh2 : ¬ (hs 7).toList = [] := by decide +kernel
    have E0 : Hid _ := EAt.new (K := 7) (T := T) (B := B) w hc
    generalize hX : (ec 7 T B c).toArray = X at E0 ⊢
    obtain ⟨g0, g1, g2⟩ := E0.out.cells
    have Hr : Hid _ := E0.out.commit
    clear e hX hc
    try clear hz
    go_enter Try.func24, Try.ntmps24
    go_wp2_with (first | (go_at_call 58; refine (has_any _ 7 (by decide)).mono ?_; rintro e w1 ⟨rfl, rfl⟩) | (go_at_call 59; refine (in_any _ 7 _ _ (by decide) (by decide) rfl).mono ?_; rintro e w1 ⟨rfl, rfl⟩) | (go_at_call 61; refine (Tp.rkind_any _ _ hT).mono ?_; rintro e w2 ⟨rfl, k1⟩; have HKK : Hid _ := ((Keep.refl (fun _ => False) w).alloc _).trans k1; have E0 : Hid _ := E0.out.calm k1; clear k1; obtain ⟨g0, g1, g2⟩ := E0.out.cells; have Hr : Hid _ := E0.out.commit) | (refine wl_loadG (by rfl) rfl rfl Hc.out Hr.out ?_; simp only [Act.put, List.setIfInBounds_toArray, List.set_cons_zero, List.set_cons_succ]))
    go_ret
    exact ⟨rfl, ((Keep.refl _ _).alloc _)⟩
theorem rcheck_any (w : World) (K : Int) (T B : ByteArray) (c : List UInt8) (hc : c.length = 32) (hT : T.size ≤ maxLen) (hB : B.size ≤ maxLen) :
    Calls Try.prog 24 #[.agg (ec K T B c).toArray] w fun e w' => e = .returned (.int .i64 (ck K T B c)) ∧ Keep (fun _ => False) w w' := by
  rcases (by omega : (K < 1 ∨ 7 < K) ∨ K = 1 ∨ K = 2 ∨ K = 3 ∨ K = 4 ∨ K = 5 ∨ K = 6 ∨ K = 7) with h | rfl | rfl | rfl | rfl | rfl | rfl | rfl
  · have e : ck K T B c = 10 := by unfold ck; rw [if_pos h]
    rw [e]
    exact rcheck_none w K T B c hc h
  · exact rcheck_1 w T B c hc hT hB
  · exact rcheck_2 w T B c hc hT hB
  · exact rcheck_3 w T B c hc hT hB
  · exact rcheck_4 w T B c hc hT hB
  · exact rcheck_5 w T B c hc hT hB
  · exact rcheck_6 w T B c hc hT hB
  · exact rcheck_7 w T B c hc hT hB
end En
end Go.Proofs.Ytmnmemeldjbifaa
