/-
  Topics' names. topic.Check; petrelref05's Kind.
-/
import Derived.Test.YthllhjdaknmlbaaDoorGRd
import Derived.Test.YthllhjdaknmlbaaDoorGTx
import Derived.Laws.RangeAny
import Derived.Lib.RuneCount
set_option linter.unusedVariables false
set_option linter.unusedSimpArgs false

namespace Go.Proofs.YthllhjdaknmlbaaDoor
open Go.RowKit
namespace Tp
open Oct

/-- May a letter stand in a name? -/
def sm (c : Int) : Bool := decide (c = 45 ∨ (48 ≤ c ∧ c ≤ 57) ∨ (97 ≤ c ∧ c ≤ 122))
theorem sm_true {c : Int} (h : c = 45 ∨ (48 ≤ c ∧ c ≤ 57) ∨ (97 ≤ c ∧ c ≤ 122)) : sm c = true := decide_eq_true h
theorem sm_false {c : Int} (h : ¬ (c = 45 ∨ (48 ≤ c ∧ c ≤ 57) ∨ (97 ≤ c ∧ c ≤ 122))) : sm c = false := decide_eq_false h
set_option maxRecDepth 100000 in
theorem small_any (w : World) (c : Int) (v : Bool) (hv : sm c = v) : Calls Tryd.prog 90 #[.int .i32 c] w fun e w' => e = .returned (.bool v) ∧ w' = w := by
  subst hv
  rcases (by omega : c < 45 ∨ c = 45 ∨ (45 < c ∧ c < 48) ∨ (48 ≤ c ∧ c ≤ 57) ∨ (57 < c ∧ c < 97) ∨ (97 ≤ c ∧ c ≤ 122) ∨ 122 < c) with h | h | ⟨h, h'⟩ | ⟨h, h'⟩ | ⟨h, h'⟩ | ⟨h, h'⟩ | h
  · rw [sm_false (by omega)]
    have e : (c == 45) = false := by rw [beq_eq_false_iff_ne]; omega
    go_enter Tryd.func90, Tryd.ntmps90
    go_wp2
    go_ret
    exact ⟨rfl, rfl⟩
  · rw [sm_true (by omega)]
    subst h
    go_enter Tryd.func90, Tryd.ntmps90
    go_wp2
    go_ret
    exact ⟨rfl, rfl⟩
  · rw [sm_false (by omega)]
    have e : (c == 45) = false := by rw [beq_eq_false_iff_ne]; omega
    go_enter Tryd.func90, Tryd.ntmps90
    go_wp2
    go_ret
    exact ⟨rfl, rfl⟩
  · rw [sm_true (by omega)]
    go_enter Tryd.func90, Tryd.ntmps90
    go_wp2
    go_ret
    exact ⟨rfl, rfl⟩
  · rw [sm_false (by omega)]
    have e : (c == 45) = false := by rw [beq_eq_false_iff_ne]; omega
    go_enter Tryd.func90, Tryd.ntmps90
    go_wp2
    go_ret
    exact ⟨rfl, rfl⟩
  · rw [sm_true (by omega)]
    go_enter Tryd.func90, Tryd.ntmps90
    go_wp2
    go_ret
    exact ⟨rfl, rfl⟩
  · rw [sm_false (by omega)]
    have e : (c == 45) = false := by rw [beq_eq_false_iff_ne]; omega
    go_enter Tryd.func90, Tryd.ntmps90
    go_wp2
    go_ret
    exact ⟨rfl, rfl⟩
/-- The letter of a kind, 1 to 5. -/
def lt (k : Nat) : Int := match k with | 1 => 99 | 2 => 115 | 3 => 108 | 4 => 109 | 5 => 114 | _ => 0
set_option maxRecDepth 100000 in
theorem letter_any (w : World) (k : Nat) (hk : 1 ≤ k ∧ k ≤ 5) : Calls Tryd.prog 88 #[.int .i64 k] w fun e w' => e = .returned (.int .u8 (lt k)) ∧ w' = w := by
  rcases (by omega : k = 1 ∨ k = 2 ∨ k = 3 ∨ k = 4 ∨ k = 5) with rfl | rfl | rfl | rfl | rfl
  all_goals
    go_enter Tryd.func88, Tryd.ntmps88
    go_wp2
    go_ret
    exact ⟨rfl, rfl⟩
/-- The kind that a first letter tells. -/
def lk (c : Int) : Int := if c = 99 then 1 else if c = 115 then 2 else if c = 108 then 3 else if c = 109 then 4 else if c = 114 then 5 else 0
/-- Is a name well formed? -/
def fm (s : ByteArray) : Bool := if s.size < 2 ∨ 12 < s.size ∨ (s.data.toList.getD (s.size - 1) 0).toNat = 45 then false else (s.data.toList.drop 1).all fun c => sm c.toNat
def tk (s : ByteArray) : Int := if fm s = true then lk (s.data.toList.getD 0 0).toNat else 0
theorem getD_s (s : ByteArray) (i : Nat) (h : i < s.size) : s.data.toList.getD i 0 = s[i] := by
  have hl : s.data.toList.length = s.size := by rw [Array.length_toList]; rfl
  rw [List.getD_eq_getElem?_getD, List.getElem?_eq_getElem (by omega)]
  rfl
theorem all_drop (s : ByteArray) (pos : Nat) (h : pos < s.size) : (s.data.toList.drop pos).all (fun c => sm c.toNat) = (sm (s[pos]).toNat && (s.data.toList.drop (pos + 1)).all (fun c => sm c.toNat)) := by
  have hl : s.data.toList.length = s.size := by rw [Array.length_toList]; rfl
  rw [List.drop_eq_getElem_cons (by omega), List.all_cons]
  rfl
theorem ext_drop (s : ByteArray) : (s.extract 1 s.size).data.toList = s.data.toList.drop 1 := by
  rw [ByteArray.data_extract, Array.toList_extract, List.extract_eq_take_drop]
  refine List.take_of_length_le ?_
  rw [List.length_drop, Array.length_toList]
  exact Nat.le_refl _
theorem iter_keep (w : World) (s : ByteArray) (pos : Nat) : Keep (fun _ => False) w (w.iter s pos) := (Keep.refl _ w).alloc _
set_option maxRecDepth 100000 in
set_option maxHeartbeats 1000000 in
theorem formed_any (w : World) (s : ByteArray) (hs : s.size ≤ maxLen) : Calls Tryd.prog 87 #[.string s] w fun e w' => e = .returned (.bool (fm s)) ∧ Keep (fun _ => False) w w' := by
  unfold maxLen at hs
  by_cases h1 : s.size < 2
  · have e : fm s = false := by unfold fm; rw [if_pos (.inl h1)]
    rw [e]
    go_enter Tryd.func87, Tryd.ntmps87
    go_wp2
    go_ret
    exact ⟨rfl, Keep.refl _ _⟩
  by_cases h2 : 12 < s.size
  · have e : fm s = false := by unfold fm; rw [if_pos (.inr (.inl h2))]
    rw [e]
    go_enter Tryd.func87, Tryd.ntmps87
    go_wp2
    go_ret
    exact ⟨rfl, Keep.refl _ _⟩
  have hg := getD_s s (s.size - 1) (by omega)
  by_cases h3 : (s[s.size - 1]'(by omega)).toNat = 45
  · have e : fm s = false := by unfold fm; rw [if_pos (.inr (.inr (by rw [hg]; exact h3)))]
    rw [e]
    have h4 : (((s[s.size - 1]'(by omega)).toNat : Int) == 45) = true := by rw [beq_iff_eq]; omega
    clear e hg h3
    go_enter Tryd.func87, Tryd.ntmps87
    go_wp2
    go_ret
    exact ⟨rfl, Keep.refl _ _⟩
  have h4 : (((s[s.size - 1]'(by omega)).toNat : Int) == 45) = false := by rw [beq_eq_false_iff_ne]; omega
  obtain ⟨t, ht⟩ : ∃ t, s.extract 1 s.size = t := ⟨_, rfl⟩
  have hfm : fm s = (t.data.toList.drop 0).all (fun c => sm c.toNat) := by
    unfold fm
    rw [if_neg (by rw [hg]; omega), ← ht, ext_drop]
    rfl
  have htl : t.data.toList.length = t.size := by rw [Array.length_toList]; rfl
  have Ht : Hid _ := ht
  have Hfm : Hid _ := hfm
  clear hg h3 hfm ht
  go_enter Tryd.func87, Tryd.ntmps87
  go_wp2
  rw [Ht.out]
  go_loopw [4] (fun _ wr => ∃ pos : Nat, pos ≤ t.size ∧ wr = w.iter t pos ∧ (t.data.toList.drop 0).all (fun c => sm c.toNat) = (t.data.toList.drop pos).all (fun c => sm c.toNat)) (fun _ wr => t.size - wr.iterPos w.heap.size)
  case atStart => exact ⟨0, Nat.zero_le _, rfl, rfl⟩
  case round =>
    obtain ⟨pos, hpos, rfl, hall⟩ := hrel
    have Ha : Hid _ := hall
    clear hall
    by_cases hlt : pos < t.size
    · have hd := all_drop t pos hlt
      by_cases ha : (t[pos]'hlt).toNat < 128
      · have hnx : ∀ ty, (Instr.next (.pointer (some ⟨w.heap.size, 0, none⟩)) true ty).run Tryd.prog (w.iter t pos) = _ := fun ty => run_next_ascii w t pos ty hlt ha
        by_cases hsm : sm (t[pos]'hlt).toNat = true
        · have Hd : Hid ((t.data.toList.drop pos).all (fun c => sm c.toNat) = (t.data.toList.drop (pos + 1)).all (fun c => sm c.toNat)) := by
            show (t.data.toList.drop pos).all (fun c => sm c.toNat) = (t.data.toList.drop (pos + 1)).all (fun c => sm c.toNat)
            rw [hd, hsm, Bool.true_and]
          have Hs : Hid _ := hsm
          clear hd hsm
          go_wp2_with (first | (go_at_call 90; refine (small_any _ _ true Hs.out).mono ?_; rintro e w9 ⟨rfl, rfl⟩))
          go_roundw
          case rel => exact ⟨pos + 1, by omega, rfl, Ha.out.trans Hd.out⟩
          case measure => simp; omega
        · have hsm' : sm (t[pos]'hlt).toNat = false := by simpa using hsm
          have Hv : Hid (fm s = false) := by
            show fm s = false
            rw [Hfm.out, Ha.out, hd, hsm', Bool.false_and]
          have Hs : Hid _ := hsm'
          clear hd hsm hsm'
          go_wp2_with (first | (go_at_call 90; refine (small_any _ _ false Hs.out).mono ?_; rintro e w9 ⟨rfl, rfl⟩))
          go_ret
          exact ⟨by rw [Hv.out]; rfl, iter_keep _ _ _⟩
      · have hh := decode_high t pos hlt (by omega)
        have hnx : ∀ ty, (Instr.next (.pointer (some ⟨w.heap.size, 0, none⟩)) true ty).run Tryd.prog (w.iter t pos) = _ := fun ty => run_next_any w t pos ty hlt
        have Hs : Hid (sm (Utf8.decode t pos).1 = false) := sm_false (by omega)
        have Hv : Hid (fm s = false) := by
          show fm s = false
          rw [Hfm.out, Ha.out, hd, sm_false (by omega), Bool.false_and]
        clear hd hh
        go_wp2_with (first | (go_at_call 90; refine (small_any _ _ false Hs.out).mono ?_; rintro e w9 ⟨rfl, rfl⟩))
        go_ret
        exact ⟨by rw [Hv.out]; rfl, iter_keep _ _ _⟩
    · have hnx : ∀ ty, (Instr.next (.pointer (some ⟨w.heap.size, 0, none⟩)) true ty).run Tryd.prog (w.iter t pos) = _ := fun ty => run_next_end w t pos ty hlt
      have Hv : Hid (fm s = true) := by
        show fm s = true
        rw [Hfm.out, Ha.out, List.drop_eq_nil_of_le (by omega)]
        rfl
      go_wp2
      go_ret
      exact ⟨by rw [Hv.out]; rfl, iter_keep _ _ _⟩
theorem exec_index {o : Oper} {a : Act} {x y : Operand} {s : ByteArray} {i : Nat} (ho : o.op = .index 9 x y) (hx : a.eval x = .string s) (hy : a.eval y = .int .i64 i) (h : i < s.size) (w2 : World) :
    (execOp a.eval o).run Tryd.prog w2 = .ok (.value (.int .u8 ((s[i]'h).toNat : Int))) w2 := by
  unfold execOp
  simp only [ho, hx, hy]
  simp [go_sem, Instr.index, run_underlying Tryd.underlying9, h]
/-- The kind that a first letter tells, by the loop over kinds. -/
theorem lk_lt (c : Int) (k : Nat) (hk : 1 ≤ k ∧ k ≤ 5) (h : lt k = c) : lk c = k := by
  rcases (by omega : k = 1 ∨ k = 2 ∨ k = 3 ∨ k = 4 ∨ k = 5) with rfl | rfl | rfl | rfl | rfl
  all_goals
    subst h
    rfl
theorem lk_none (c : Int) (h : ∀ k : Nat, 1 ≤ k → k ≤ 5 → lt k ≠ c) : lk c = 0 := by
  have h1 := h 1 (by omega) (by omega)
  have h2 := h 2 (by omega) (by omega)
  have h3 := h 3 (by omega) (by omega)
  have h4 := h 4 (by omega) (by omega)
  have h5 := h 5 (by omega) (by omega)
  simp only [lt] at h1 h2 h3 h4 h5
  unfold lk
  rw [if_neg (by omega), if_neg (by omega), if_neg (by omega), if_neg (by omega), if_neg (by omega)]
set_option maxRecDepth 100000 in
theorem kind_any (w : World) (s : ByteArray) (hs : s.size ≤ maxLen) : Calls Tryd.prog 81 #[.string s] w fun e w' => e = .returned (.int .i64 (tk s)) ∧ Keep (fun _ => False) w w' := by
  cases hf : fm s with
  | false =>
    have e : tk s = 0 := by unfold tk; rw [hf]; rfl
    have Hf : Hid _ := hf
    rw [e]
    clear hf e
    go_enter Tryd.func81, Tryd.ntmps81
    go_wp2_with (first | (go_at_call 87; refine (formed_any _ s hs).mono ?_; rw [Hf.out]; rintro e w1 ⟨rfl, k1⟩; have K1 : Hid _ := k1; clear k1))
    go_ret
    exact ⟨rfl, K1.out⟩
  | true =>
    have h2 : 2 ≤ s.size := by
      by_cases h : s.size < 2
      · unfold fm at hf; rw [if_pos (.inl h)] at hf; cases hf
      · omega
    have e : tk s = lk (s[0]'(by omega)).toNat := by unfold tk; rw [hf, if_pos rfl, getD_s s 0 (by omega)]
    have Hf : Hid _ := hf
    have He : Hid _ := e
    clear hf e
    unfold maxLen at hs
    go_enter Tryd.func81, Tryd.ntmps81
    go_wp2_with (first | (go_at_call 87; refine (formed_any _ s (by unfold maxLen; exact hs)).mono ?_; rw [Hf.out]; rintro e w1 ⟨rfl, k1⟩; have K1 : Hid _ := k1; clear k1))
    go_loopw [3] (fun i wr => ∃ k : Nat, (1 ≤ k ∧ k ≤ 6) ∧ i = .int .i64 k ∧ Keep (fun _ => False) w wr ∧ ∀ j : Nat, 1 ≤ j → j < k → lt j ≠ (s[0]'(by omega)).toNat) (fun i _ => 6 - (intOf i).toNat)
    case atStart => exact ⟨1, by omega, rfl, K1.out, fun j h1 h2 => by omega⟩
    case round =>
      obtain ⟨k, hk, rfl, hkp, hno⟩ := hrel
      have HK : Hid _ := hkp
      have HN : Hid _ := hno
      clear hkp hno
      by_cases hlt : k < 6
      · by_cases hc : lt k = (s[0]'(by omega)).toNat
        · have hb : (lt k == ((s[0]'(by omega)).toNat : Int)) = true := by simpa using hc
          have e := (He.out).trans (lk_lt _ k (by omega) hc)
          have E : Hid _ := e
          clear hc e
          go_wp2
          refine Txt.wp_region_text (fun _ => True) [0, 4, 0, 0, 0] (by kernel_rfl) (by kernel_rfl) trivial ?_
          repeat (first
            | (refine Txt.tl_pure (v := ?_) (by rfl) ?_ ?_; rotate_left; (focus (intro _; go_simp; try with_reducible rfl)); simp only [Act.put, List.setIfInBounds_toArray, List.set_cons_zero, List.set_cons_succ])
            | (refine Txt.tl_skip (by rfl) trivial ?_; simp only [Act.put, List.setIfInBounds_toArray, List.set_cons_zero, List.set_cons_succ])
            | (refine Txt.tl_load (v := ?_) (by rfl) (by rfl) (by rfl) (by kernel_rfl) ?_ ?_; rotate_left; (focus (first | assumption | (go_simp; done) | (go_simp; with_reducible rfl))); simp only [Act.put, List.setIfInBounds_toArray, List.set_cons_zero, List.set_cons_succ])
            | (refine Txt.tl_alloc (by rfl) ?_; go_simp; refine ⟨by (first | exact Txt.Le.alloc_drew _ _ | exact Txt.Le.alloc _ _), ?_⟩))
          refine Txt.tl_call Tryd.func88 (by kernel_rfl) (by kernel_rfl) (by rfl) (by rfl) (by rfl) (letter_any _ k (by omega)) ?_
          rintro e w9 ⟨rfl, rfl⟩
          refine ⟨_, rfl, trivial, ?_⟩
          simp only [Act.put, List.setIfInBounds_toArray, List.set_cons_zero, List.set_cons_succ]
          repeat (first
            | (refine Txt.tl_pure (v := ?_) (by rfl) ?_ ?_; rotate_left; (focus (intro _; go_simp; try with_reducible rfl)); simp only [Act.put, List.setIfInBounds_toArray, List.set_cons_zero, List.set_cons_succ])
            | (refine Txt.tl_skip (by rfl) trivial ?_; simp only [Act.put, List.setIfInBounds_toArray, List.set_cons_zero, List.set_cons_succ])
            | (refine Txt.tl_load (v := ?_) (by rfl) (by rfl) (by rfl) (by kernel_rfl) ?_ ?_; rotate_left; (focus (first | assumption | (go_simp; done) | (go_simp; with_reducible rfl))); simp only [Act.put, List.setIfInBounds_toArray, List.set_cons_zero, List.set_cons_succ])
            | (refine Txt.tl_alloc (by rfl) ?_; go_simp; refine ⟨by (first | exact Txt.Le.alloc_drew _ _ | exact Txt.Le.alloc _ _), ?_⟩))
          refine Txt.tl_pure (v := .int .u8 ((s[0]'(by omega)).toNat : Int)) (by rfl) (exec_index (i := 0) rfl rfl rfl (by omega)) ?_
          simp only [Act.put, List.setIfInBounds_toArray, List.set_cons_zero, List.set_cons_succ]
          repeat (first
            | (refine Txt.tl_pure (v := ?_) (by rfl) ?_ ?_; rotate_left; (focus (intro _; go_simp; try with_reducible rfl)); simp only [Act.put, List.setIfInBounds_toArray, List.set_cons_zero, List.set_cons_succ])
            | (refine Txt.tl_skip (by rfl) trivial ?_; simp only [Act.put, List.setIfInBounds_toArray, List.set_cons_zero, List.set_cons_succ])
            | (refine Txt.tl_load (v := ?_) (by rfl) (by rfl) (by rfl) (by kernel_rfl) ?_ ?_; rotate_left; (focus (first | assumption | (go_simp; done) | (go_simp; with_reducible rfl))); simp only [Act.put, List.setIfInBounds_toArray, List.set_cons_zero, List.set_cons_succ])
            | (refine Txt.tl_alloc (by rfl) ?_; go_simp; refine ⟨by (first | exact Txt.Le.alloc_drew _ _ | exact Txt.Le.alloc _ _), ?_⟩))
          refine Txt.tl_nil ?_
          go_wp2
          go_ret
          exact ⟨by rw [E.out]; rfl, HK.out.drew⟩
        · have hb : (lt k == ((s[0]'(by omega)).toNat : Int)) = false := by simpa using hc
          have Hc : Hid _ := hc
          clear hc
          go_wp2
          refine Txt.wp_region_text (fun _ => True) [0, 4, 0, 0, 0] (by kernel_rfl) (by kernel_rfl) trivial ?_
          repeat (first
            | (refine Txt.tl_pure (v := ?_) (by rfl) ?_ ?_; rotate_left; (focus (intro _; go_simp; try with_reducible rfl)); simp only [Act.put, List.setIfInBounds_toArray, List.set_cons_zero, List.set_cons_succ])
            | (refine Txt.tl_skip (by rfl) trivial ?_; simp only [Act.put, List.setIfInBounds_toArray, List.set_cons_zero, List.set_cons_succ])
            | (refine Txt.tl_load (v := ?_) (by rfl) (by rfl) (by rfl) (by kernel_rfl) ?_ ?_; rotate_left; (focus (first | assumption | (go_simp; done) | (go_simp; with_reducible rfl))); simp only [Act.put, List.setIfInBounds_toArray, List.set_cons_zero, List.set_cons_succ])
            | (refine Txt.tl_alloc (by rfl) ?_; go_simp; refine ⟨by (first | exact Txt.Le.alloc_drew _ _ | exact Txt.Le.alloc _ _), ?_⟩))
          refine Txt.tl_call Tryd.func88 (by kernel_rfl) (by kernel_rfl) (by rfl) (by rfl) (by rfl) (letter_any _ k (by omega)) ?_
          rintro e w9 ⟨rfl, rfl⟩
          refine ⟨_, rfl, trivial, ?_⟩
          simp only [Act.put, List.setIfInBounds_toArray, List.set_cons_zero, List.set_cons_succ]
          repeat (first
            | (refine Txt.tl_pure (v := ?_) (by rfl) ?_ ?_; rotate_left; (focus (intro _; go_simp; try with_reducible rfl)); simp only [Act.put, List.setIfInBounds_toArray, List.set_cons_zero, List.set_cons_succ])
            | (refine Txt.tl_skip (by rfl) trivial ?_; simp only [Act.put, List.setIfInBounds_toArray, List.set_cons_zero, List.set_cons_succ])
            | (refine Txt.tl_load (v := ?_) (by rfl) (by rfl) (by rfl) (by kernel_rfl) ?_ ?_; rotate_left; (focus (first | assumption | (go_simp; done) | (go_simp; with_reducible rfl))); simp only [Act.put, List.setIfInBounds_toArray, List.set_cons_zero, List.set_cons_succ])
            | (refine Txt.tl_alloc (by rfl) ?_; go_simp; refine ⟨by (first | exact Txt.Le.alloc_drew _ _ | exact Txt.Le.alloc _ _), ?_⟩))
          refine Txt.tl_pure (v := .int .u8 ((s[0]'(by omega)).toNat : Int)) (by rfl) (exec_index (i := 0) rfl rfl rfl (by omega)) ?_
          simp only [Act.put, List.setIfInBounds_toArray, List.set_cons_zero, List.set_cons_succ]
          repeat (first
            | (refine Txt.tl_pure (v := ?_) (by rfl) ?_ ?_; rotate_left; (focus (intro _; go_simp; try with_reducible rfl)); simp only [Act.put, List.setIfInBounds_toArray, List.set_cons_zero, List.set_cons_succ])
            | (refine Txt.tl_skip (by rfl) trivial ?_; simp only [Act.put, List.setIfInBounds_toArray, List.set_cons_zero, List.set_cons_succ])
            | (refine Txt.tl_load (v := ?_) (by rfl) (by rfl) (by rfl) (by kernel_rfl) ?_ ?_; rotate_left; (focus (first | assumption | (go_simp; done) | (go_simp; with_reducible rfl))); simp only [Act.put, List.setIfInBounds_toArray, List.set_cons_zero, List.set_cons_succ])
            | (refine Txt.tl_alloc (by rfl) ?_; go_simp; refine ⟨by (first | exact Txt.Le.alloc_drew _ _ | exact Txt.Le.alloc _ _), ?_⟩))
          refine Txt.tl_nil ?_
          go_wp2
          go_roundw
          case rel =>
            refine ⟨k + 1, by omega, rfl, HK.out.drew, fun j h1 h2 => ?_⟩
            by_cases e : j = k
            · subst e; exact Hc.out
            · exact HN.out j h1 (by omega)
          case measure => simp [intOf]; omega
      · obtain rfl : k = 6 := by omega
        have e := (He.out).trans (lk_none _ (fun j h1 h2 => HN.out j h1 (by omega)))
        have E : Hid _ := e
        clear e
        go_wp2
        go_ret
        exact ⟨by rw [E.out]; rfl, HK.out⟩
end Tp
end Go.Proofs.YthllhjdaknmlbaaDoor


namespace Go.Proofs.YthllhjdaknmlbaaDoor
open Go.RowKit
namespace Tp
open Oct

set_option maxRecDepth 100000 in
theorem check_any (w : World) (s : ByteArray) (hs : s.size ≤ maxLen) (v : Int) (hv : (if tk s = 0 then (9 : Int) else 0) = v) : Calls Tryd.prog 64 #[.string s] w fun e w' => e = .returned (.int .i64 v) ∧ Keep (fun _ => False) w w' := by
  subst hv
  obtain ⟨k, hk⟩ : ∃ k, tk s = k := ⟨_, rfl⟩
  have Hk : Hid _ := hk
  by_cases h : k = 0
  · rw [hk, if_pos h]
    subst h
    clear hk
    go_enter Tryd.func64, Tryd.ntmps64
    go_wp2_with (first | (go_at_call 81; refine (kind_any _ s hs).mono ?_; rw [Hk.out]; rintro e w1 ⟨rfl, k1⟩; have K1 : Hid _ := k1; clear k1))
    go_ret
    exact ⟨rfl, K1.out⟩
  · rw [hk, if_neg h]
    have h' : (k == 0) = false := by simpa using h
    clear hk h
    go_enter Tryd.func64, Tryd.ntmps64
    go_wp2_with (first | (go_at_call 81; refine (kind_any _ s hs).mono ?_; rw [Hk.out]; rintro e w1 ⟨rfl, k1⟩; have K1 : Hid _ := k1; clear k1))
    go_ret
    exact ⟨rfl, K1.out⟩
theorem tk_f {s : ByteArray} (h : fm s = false) : tk s = 0 := by unfold tk; rw [h]; rfl
def LS : ByteArray := ⟨#[63, 99, 115, 108, 109, 114]⟩
theorem ls_lt (k : Nat) (hk : 1 ≤ k ∧ k ≤ 5) : ((LS[k]'(by show k < 6; omega)).toNat : Int) = lt k := by
  rcases (by omega : k = 1 ∨ k = 2 ∨ k = 3 ∨ k = 4 ∨ k = 5) with rfl | rfl | rfl | rfl | rfl
  all_goals rfl
end Tp
end Go.Proofs.YthllhjdaknmlbaaDoor
