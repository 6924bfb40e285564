/-
  topic.Check; petrelref05's Kind.
-/
import Derived.Test.YtmnmemeldjbifaaTop1
set_option linter.unusedVariables false
set_option linter.unusedSimpArgs false
namespace Go.Proofs.Ytmnmemeldjbifaa
open Go.RowKit
namespace Tp
open Oct

set_option maxRecDepth 100000 in
theorem check_any (w : World) (s : ByteArray) (hs : s.size ≤ maxLen) (v : Int) (hv : (if tk s = 0 then (9 : Int) else 0) = v) : Calls Try.prog 60 #[.string s] w fun e w' => e = .returned (.int .i64 v) ∧ Keep (fun _ => False) w w' := by
  subst hv
  obtain ⟨k, hk⟩ : ∃ k, tk s = k := ⟨_, rfl⟩
  have Hk : Hid _ := hk
  by_cases h : k = 0
  · rw [hk, if_pos h]
    subst h
    clear hk
    go_enter Try.func60, Try.ntmps60
    go_wp2_with (first | (go_at_call 73; refine (kind_any _ s hs).mono ?_; rw [Hk.out]; rintro e w1 ⟨rfl, k1⟩; have K1 : Hid _ := k1; clear k1))
    go_ret
    exact ⟨rfl, K1.out⟩
  · rw [hk, if_neg h]
    have h' : (k == 0) = false := by simpa using h
    clear hk h
    go_enter Try.func60, Try.ntmps60
    go_wp2_with (first | (go_at_call 73; refine (kind_any _ s hs).mono ?_; rw [Hk.out]; rintro e w1 ⟨rfl, k1⟩; have K1 : Hid _ := k1; clear k1))
    go_ret
    exact ⟨rfl, K1.out⟩
theorem tk_f {s : ByteArray} (h : fm s = false) : tk s = 0 := by unfold tk; rw [h]; rfl
def LS : ByteArray := ⟨#[63, 99, 115, 108, 109, 114]⟩
set_option maxRecDepth 100000 in
theorem letters_any (w : World) : Calls Try.prog 74 #[] w fun e w' => e = .returned (.string LS) ∧ w' = w := by
  go_enter Try.func74, Try.ntmps74
  go_wp2
  go_ret
  exact ⟨rfl, rfl⟩
theorem ls_lt (k : Nat) (hk : 1 ≤ k ∧ k ≤ 5) : ((LS[k]'(by show k < 6; omega)).toNat : Int) = lt k := by
  rcases (by omega : k = 1 ∨ k = 2 ∨ k = 3 ∨ k = 4 ∨ k = 5) with rfl | rfl | rfl | rfl | rfl
  all_goals rfl
set_option maxRecDepth 100000 in
set_option maxHeartbeats 4000000 in
theorem rkind_any (w : World) (s : ByteArray) (hs : s.size ≤ maxLen) : Calls Try.prog 61 #[.string s] w fun e w' => e = .returned (.int .i64 (tk s)) ∧ Keep (fun _ => False) w w' := by
  unfold maxLen at hs
  by_cases h1 : s.size < 2
  · have e : tk s = 0 := tk_f (by unfold fm; rw [if_pos (.inl h1)])
    rw [e]
    clear e
    go_enter Try.func61, Try.ntmps61
    go_wp2
    go_ret
    exact ⟨rfl, Keep.refl _ _⟩
  by_cases h2 : 12 < s.size
  · have e : tk s = 0 := tk_f (by unfold fm; rw [if_pos (.inr (.inl h2))])
    rw [e]
    clear e
    go_enter Try.func61, Try.ntmps61
    go_wp2
    go_ret
    exact ⟨rfl, Keep.refl _ _⟩
  have hg := getD_s s (s.size - 1) (by omega)
  by_cases h3 : (s[s.size - 1]'(by omega)).toNat = 45
  · have e : tk s = 0 := tk_f (by unfold fm; rw [if_pos (.inr (.inr (by rw [hg]; exact h3)))])
    rw [e]
    have h4 : (((s[s.size - 1]'(by omega)).toNat : Int) == 45) = true := by rw [beq_iff_eq]; omega
    clear e hg h3
    go_enter Try.func61, Try.ntmps61
    go_wp2
    go_ret
    exact ⟨rfl, Keep.refl _ _⟩
  have h4 : (((s[s.size - 1]'(by omega)).toNat : Int) == 45) = false := by rw [beq_eq_false_iff_ne]; omega
  have hfm : fm s = (s.data.toList.drop 1).all (fun c => sm c.toNat) := by
    unfold fm
    rw [if_neg (by rw [hg]; omega)]
  have htk : fm s = true → tk s = lk (s[0]'(by omega)).toNat := fun e => by unfold tk; rw [e, if_pos rfl, getD_s s 0 (by omega)]
  have htk0 : fm s = false → tk s = 0 := fun e => by unfold tk; rw [e]; rfl
  have Hfm : Hid _ := hfm
  have Htk : Hid _ := htk
  have Htk0 : Hid _ := htk0
  have htl : s.data.toList.length = s.size := by rw [Array.length_toList]; rfl
  clear hg h3 hfm htk htk0
  go_enter Try.func61, Try.ntmps61
  go_wp2
  go_loopw [3] (fun i wr => ∃ k : Nat, (1 ≤ k ∧ k ≤ s.size) ∧ i = .int .i64 k ∧ Keep (fun _ => False) w wr ∧ (s.data.toList.drop 1).all (fun c => sm c.toNat) = (s.data.toList.drop k).all (fun c => sm c.toNat)) (fun i _ => s.size - (intOf i).toNat)
  case atStart => exact ⟨1, by omega, rfl, Keep.refl _ _, rfl⟩
  case round =>
    obtain ⟨k, hk, rfl, hkp, hall⟩ := hrel
    have HK : Hid _ := hkp
    clear hkp
    have Ha : Hid _ := hall
    clear hall
    by_cases hlt : k < s.size
    · have hd := all_drop s k hlt
      cases hsm : sm (s[k]'hlt).toNat with
      | true =>
        have Hd : Hid ((s.data.toList.drop k).all (fun c => sm c.toNat) = (s.data.toList.drop (k + 1)).all (fun c => sm c.toNat)) := by
          show (s.data.toList.drop k).all (fun c => sm c.toNat) = (s.data.toList.drop (k + 1)).all (fun c => sm c.toNat)
          rw [hd, hsm, Bool.true_and]
        have hcase : (s[k]'hlt).toNat = 45 ∨ (48 ≤ (s[k]'hlt).toNat ∧ (s[k]'hlt).toNat ≤ 57) ∨ (97 ≤ (s[k]'hlt).toNat ∧ (s[k]'hlt).toNat ≤ 122) := by
          have := of_decide_eq_true hsm
          omega
        clear hd hsm
        rcases hcase with h | ⟨h, h'⟩ | ⟨h, h'⟩
        all_goals
          go_wp2
          all_goals
            go_roundw
            case rel => exact ⟨k + 1, by omega, rfl, HK.out, Ha.out.trans Hd.out⟩
            case measure => simp [intOf]; omega
      | false =>
        have Hv : Hid (tk s = 0) := Htk0.out (by rw [Hfm.out, Ha.out, hd, hsm, Bool.false_and])
        have hno : ¬ ((s[k]'hlt).toNat = 45 ∨ (48 ≤ (s[k]'hlt).toNat ∧ (s[k]'hlt).toNat ≤ 57) ∨ (97 ≤ (s[k]'hlt).toNat ∧ (s[k]'hlt).toNat ≤ 122)) := fun e => by
          rw [sm_true (by omega)] at hsm; cases hsm
        have hb : (((s[k]'hlt).toNat : Int) == 45) = false := by rw [beq_eq_false_iff_ne]; omega
        have hb2 : (((s[k]'hlt).toNat : Int) != 45) = true := by rw [bne, hb]; rfl
        have hcase : (s[k]'hlt).toNat < 48 ∨ (57 < (s[k]'hlt).toNat ∧ (s[k]'hlt).toNat < 97) ∨ 122 < (s[k]'hlt).toNat := by omega
        clear hd hsm hno
        rcases hcase with h | ⟨h, h'⟩ | h
        all_goals
          go_wp2
          all_goals
            go_ret
            exact ⟨by rw [Hv.out]; rfl, HK.out⟩
    · obtain rfl : k = s.size := by omega
      have Hv : Hid (tk s = lk (s[0]'(by omega)).toNat) := Htk.out (by rw [Hfm.out, Ha.out, List.drop_eq_nil_of_le (by omega)]; rfl)
      go_wp2
      go_loopw [5] (fun i w2 => ∃ k : Nat, (1 ≤ k ∧ k ≤ 6) ∧ i = .int .i64 k ∧ Keep (fun _ => False) w w2 ∧ ∀ j : Nat, 1 ≤ j → j < k → lt j ≠ (s[0]'(by omega)).toNat) (fun i _ => 6 - (intOf i).toNat)
      case atStart => exact ⟨1, by omega, rfl, HK.out, fun j h1 h2 => by omega⟩
      case round =>
        obtain ⟨k, hk, rfl, hkp, hno⟩ := hrel
        have HK : Hid _ := hkp
        have HN : Hid _ := hno
        clear hkp hno
        by_cases hlt : k < 6
        · by_cases hc : lt k = (s[0]'(by omega)).toNat
          · have hb : (lt k == ((s[0]'(by omega)).toNat : Int)) = true := by simpa using hc
            have e := (Hv.out).trans (lk_lt _ k (by omega) hc)
            have E : Hid _ := e
            clear hc e
            go_wp2
            refine Txt.wp_region_text (fun _ => True) [4, 0, 0, 0, 0, 0] (by kernel_rfl) (by kernel_rfl) trivial ?_
            repeat (first
              | (refine Txt.tl_pure (v := ?_) (by rfl) ?_ ?_; rotate_left; (focus (intro _; go_simp; try with_reducible rfl)); simp only [Act.put, List.setIfInBounds_toArray, List.set_cons_zero, List.set_cons_succ])
              | (refine Txt.tl_skip (by rfl) trivial ?_; simp only [Act.put, List.setIfInBounds_toArray, List.set_cons_zero, List.set_cons_succ])
              | (refine Txt.tl_load (v := ?_) (by rfl) (by rfl) (by rfl) (by kernel_rfl) ?_ ?_; rotate_left; (focus (first | assumption | (go_simp; done) | (go_simp; with_reducible rfl))); simp only [Act.put, List.setIfInBounds_toArray, List.set_cons_zero, List.set_cons_succ])
              | (refine Txt.tl_alloc (by rfl) ?_; go_simp; refine ⟨by (first | exact Txt.Le.alloc_drew _ _ | exact Txt.Le.alloc _ _), ?_⟩))
            refine Txt.tl_call Try.func74 (by kernel_rfl) (by kernel_rfl) (by rfl) (by rfl) (by rfl) (letters_any _) ?_
            rintro e w9 ⟨rfl, rfl⟩
            refine ⟨_, rfl, trivial, ?_⟩
            simp only [Act.put, List.setIfInBounds_toArray, List.set_cons_zero, List.set_cons_succ]
            repeat (first
              | (refine Txt.tl_pure (v := ?_) (by rfl) ?_ ?_; rotate_left; (focus (intro _; go_simp; try with_reducible rfl)); simp only [Act.put, List.setIfInBounds_toArray, List.set_cons_zero, List.set_cons_succ])
              | (refine Txt.tl_skip (by rfl) trivial ?_; simp only [Act.put, List.setIfInBounds_toArray, List.set_cons_zero, List.set_cons_succ])
              | (refine Txt.tl_load (v := ?_) (by rfl) (by rfl) (by rfl) (by kernel_rfl) ?_ ?_; rotate_left; (focus (first | assumption | (go_simp; done) | (go_simp; with_reducible rfl))); simp only [Act.put, List.setIfInBounds_toArray, List.set_cons_zero, List.set_cons_succ])
              | (refine Txt.tl_alloc (by rfl) ?_; go_simp; refine ⟨by (first | exact Txt.Le.alloc_drew _ _ | exact Txt.Le.alloc _ _), ?_⟩))
            refine Txt.tl_pure (v := .int .u8 (lt k)) (by rfl) (fun w2 => (exec_index (s := LS) (i := k) rfl rfl rfl (by show k < 6; omega) w2).trans (by rw [ls_lt k (by omega)])) ?_
            simp only [Act.put, List.setIfInBounds_toArray, List.set_cons_zero, List.set_cons_succ]
            repeat (first
              | (refine Txt.tl_pure (v := ?_) (by rfl) ?_ ?_; rotate_left; (focus (intro _; go_simp; try with_reducible rfl)); simp only [Act.put, List.setIfInBounds_toArray, List.set_cons_zero, List.set_cons_succ])
              | (refine Txt.tl_skip (by rfl) trivial ?_; simp only [Act.put, List.setIfInBounds_toArray, List.set_cons_zero, List.set_cons_succ])
              | (refine Txt.tl_load (v := ?_) (by rfl) (by rfl) (by rfl) (by kernel_rfl) ?_ ?_; rotate_left; (focus (first | assumption | (go_simp; done) | (go_simp; with_reducible rfl))); simp only [Act.put, List.setIfInBounds_toArray, List.set_cons_zero, List.set_cons_succ])
              | (refine Txt.tl_alloc (by rfl) ?_; go_simp; refine ⟨by (first | exact Txt.Le.alloc_drew _ _ | exact Txt.Le.alloc _ _), ?_⟩))
            refine Txt.tl_pure (v := .int .u8 ((s[0]'(by omega)).toNat : Int)) (by rfl) (exec_index (i := 0) rfl rfl rfl (by omega)) ?_
            simp only [Act.put, List.setIfInBounds_toArray, List.set_cons_zero, List.set_cons_succ]
            repeat (first
              | (refine Txt.tl_pure (v := ?_) (by rfl) ?_ ?_; rotate_left; (focus (intro _; go_simp; try with_reducible rfl)); simp only [Act.put, List.setIfInBounds_toArray, List.set_cons_zero, List.set_cons_succ])
              | (refine Txt.tl_skip (by rfl) trivial ?_; simp only [Act.put, List.setIfInBounds_toArray, List.set_cons_zero, List.set_cons_succ])
              | (refine Txt.tl_load (v := ?_) (by rfl) (by rfl) (by rfl) (by kernel_rfl) ?_ ?_; rotate_left; (focus (first | assumption | (go_simp; done) | (go_simp; with_reducible rfl))); simp only [Act.put, List.setIfInBounds_toArray, List.set_cons_zero, List.set_cons_succ])
              | (refine Txt.tl_alloc (by rfl) ?_; go_simp; refine ⟨by (first | exact Txt.Le.alloc_drew _ _ | exact Txt.Le.alloc _ _), ?_⟩))
            refine Txt.tl_nil ?_
            go_wp2
            go_ret
            exact ⟨by rw [E.out]; rfl, HK.out.drew⟩
          · have hb : (lt k == ((s[0]'(by omega)).toNat : Int)) = false := by simpa using hc
            have Hc : Hid _ := hc
            clear hc
            go_wp2
            refine Txt.wp_region_text (fun _ => True) [4, 0, 0, 0, 0, 0] (by kernel_rfl) (by kernel_rfl) trivial ?_
            repeat (first
              | (refine Txt.tl_pure (v := ?_) (by rfl) ?_ ?_; rotate_left; (focus (intro _; go_simp; try with_reducible rfl)); simp only [Act.put, List.setIfInBounds_toArray, List.set_cons_zero, List.set_cons_succ])
              | (refine Txt.tl_skip (by rfl) trivial ?_; simp only [Act.put, List.setIfInBounds_toArray, List.set_cons_zero, List.set_cons_succ])
              | (refine Txt.tl_load (v := ?_) (by rfl) (by rfl) (by rfl) (by kernel_rfl) ?_ ?_; rotate_left; (focus (first | assumption | (go_simp; done) | (go_simp; with_reducible rfl))); simp only [Act.put, List.setIfInBounds_toArray, List.set_cons_zero, List.set_cons_succ])
              | (refine Txt.tl_alloc (by rfl) ?_; go_simp; refine ⟨by (first | exact Txt.Le.alloc_drew _ _ | exact Txt.Le.alloc _ _), ?_⟩))
            refine Txt.tl_call Try.func74 (by kernel_rfl) (by kernel_rfl) (by rfl) (by rfl) (by rfl) (letters_any _) ?_
            rintro e w9 ⟨rfl, rfl⟩
            refine ⟨_, rfl, trivial, ?_⟩
            simp only [Act.put, List.setIfInBounds_toArray, List.set_cons_zero, List.set_cons_succ]
            repeat (first
              | (refine Txt.tl_pure (v := ?_) (by rfl) ?_ ?_; rotate_left; (focus (intro _; go_simp; try with_reducible rfl)); simp only [Act.put, List.setIfInBounds_toArray, List.set_cons_zero, List.set_cons_succ])
              | (refine Txt.tl_skip (by rfl) trivial ?_; simp only [Act.put, List.setIfInBounds_toArray, List.set_cons_zero, List.set_cons_succ])
              | (refine Txt.tl_load (v := ?_) (by rfl) (by rfl) (by rfl) (by kernel_rfl) ?_ ?_; rotate_left; (focus (first | assumption | (go_simp; done) | (go_simp; with_reducible rfl))); simp only [Act.put, List.setIfInBounds_toArray, List.set_cons_zero, List.set_cons_succ])
              | (refine Txt.tl_alloc (by rfl) ?_; go_simp; refine ⟨by (first | exact Txt.Le.alloc_drew _ _ | exact Txt.Le.alloc _ _), ?_⟩))
            refine Txt.tl_pure (v := .int .u8 (lt k)) (by rfl) (fun w2 => (exec_index (s := LS) (i := k) rfl rfl rfl (by show k < 6; omega) w2).trans (by rw [ls_lt k (by omega)])) ?_
            simp only [Act.put, List.setIfInBounds_toArray, List.set_cons_zero, List.set_cons_succ]
            repeat (first
              | (refine Txt.tl_pure (v := ?_) (by rfl) ?_ ?_; rotate_left; (focus (intro _; go_simp; try with_reducible rfl)); simp only [Act.put, List.setIfInBounds_toArray, List.set_cons_zero, List.set_cons_succ])
              | (refine Txt.tl_skip (by rfl) trivial ?_; simp only [Act.put, List.setIfInBounds_toArray, List.set_cons_zero, List.set_cons_succ])
              | (refine Txt.tl_load (v := ?_) (by rfl) (by rfl) (by rfl) (by kernel_rfl) ?_ ?_; rotate_left; (focus (first | assumption | (go_simp; done) | (go_simp; with_reducible rfl))); simp only [Act.put, List.setIfInBounds_toArray, List.set_cons_zero, List.set_cons_succ])
              | (refine Txt.tl_alloc (by rfl) ?_; go_simp; refine ⟨by (first | exact Txt.Le.alloc_drew _ _ | exact Txt.Le.alloc _ _), ?_⟩))
            refine Txt.tl_pure (v := .int .u8 ((s[0]'(by omega)).toNat : Int)) (by rfl) (exec_index (i := 0) rfl rfl rfl (by omega)) ?_
            simp only [Act.put, List.setIfInBounds_toArray, List.set_cons_zero, List.set_cons_succ]
            repeat (first
              | (refine Txt.tl_pure (v := ?_) (by rfl) ?_ ?_; rotate_left; (focus (intro _; go_simp; try with_reducible rfl)); simp only [Act.put, List.setIfInBounds_toArray, List.set_cons_zero, List.set_cons_succ])
              | (refine Txt.tl_skip (by rfl) trivial ?_; simp only [Act.put, List.setIfInBounds_toArray, List.set_cons_zero, List.set_cons_succ])
              | (refine Txt.tl_load (v := ?_) (by rfl) (by rfl) (by rfl) (by kernel_rfl) ?_ ?_; rotate_left; (focus (first | assumption | (go_simp; done) | (go_simp; with_reducible rfl))); simp only [Act.put, List.setIfInBounds_toArray, List.set_cons_zero, List.set_cons_succ])
              | (refine Txt.tl_alloc (by rfl) ?_; go_simp; refine ⟨by (first | exact Txt.Le.alloc_drew _ _ | exact Txt.Le.alloc _ _), ?_⟩))
            refine Txt.tl_nil ?_
            go_wp2
            go_roundw
            case rel =>
              refine ⟨k + 1, by omega, rfl, HK.out.drew, fun j h1 h2 => ?_⟩
              by_cases e : j = k
              · subst e; exact Hc.out
              · exact HN.out j h1 (by omega)
            case measure => simp [intOf]; omega
        · obtain rfl : k = 6 := by omega
          have e := (Hv.out).trans (lk_none _ (fun j h1 h2 => HN.out j h1 (by omega)))
          have E : Hid _ := e
          clear e
          go_wp2
          go_ret
          exact ⟨by rw [E.out]; rfl, HK.out⟩
end Tp
end Go.Proofs.Ytmnmemeldjbifaa
