/-
  header.Check.
-/
import Derived.Test.YthllhjdaknmlbaaDoorGHa
import Derived.WalkMore
set_option linter.unusedVariables false
set_option linter.unusedSimpArgs false
namespace Go.Proofs.YthllhjdaknmlbaaDoor
open Go.RowKit
namespace Hd
open Oct Ids Gn
open Mem (M blk)
open Tp (tk)

theorem h_at {F : Nat → Prop} {w0 w : World} {it : List Mem.It} (h : M F w0 w it) (i : Nat) {b : Nat} {pv : Value} {G : Int} {T : ByteArray} {A Q Z : Int} {m : List UInt8} {X : Array Value} (hi : it[i]? = some (blk b (.cells X 26))) (hX : (hd pv G T A Q Z m).toArray = X) (hm : m.length = 32) : HAt w b pv G T A Q Z m := ⟨by rw [hX]; exact h.get i hi, hm⟩
theorem tyR : St.Ty 74 2 #[Value.nilFunc, .int .i64 0] := ⟨⟨_, Tryd.underlying74, rfl⟩, by kernel_rfl, rfl⟩
/-- The first that is broken. -/
def fb : List (Bool × Int) → Int
  | [] => 0
  | x :: r => if x.1 = true then x.2 else fb r
def kl (n : Nat) (l : List (List UInt8)) (G : Int) (T : ByteArray) (A Q Z : Int) : List (Bool × Int) := [(k1 n, 6), ((!isL l), 4), (k3 G, 12), (k4 n G, 12), (k5 T, 9), (k6 A, 5), (k7 Q, 5), (k8 Z, 5)]
/-- What 'Check' answers. -/
def ck (n : Nat) (l : List (List UInt8)) (G : Int) (T : ByteArray) (A Q Z : Int) : Int := fb (kl n l G T A Q Z)
set_option maxHeartbeats 8000000 in
set_option maxRecDepth 100000 in
theorem check_any (w : World) (a : Option Addr) (n c : Nat) (l : List (List UInt8)) (G : Int) (T : ByteArray) (A Q Z : Int) (m : List UInt8) (h : At w a n l) (hm : m.length = 32) (hn : n ≤ 1000000) (hT : T.size ≤ maxLen) (v : Int) (hv : ck n l G T A Q Z = v) :
    Calls Tryd.prog 26 #[.agg (hd (.slice a n c) G T A Q Z m).toArray] w fun e w' => e = .returned (.int .i64 v) ∧ Keep (fun _ => False) w w' := by
  have A0 : Hid (At w a n l) := h
  have Hm : Hid (m.length = 32) := hm
  have HTz : Hid (T.size ≤ maxLen) := hT
  have HV : Hid (ck n l G T A Q Z = v) := hv
  have HM : Hid (M (fun _ => False) w _ [blk w.heap.size (.cells (hd (.slice a n c) G T A Q Z m).toArray 26)]) := (M.start _ w).alloc _ rfl
  generalize hX : (hd (.slice a n c) G T A Q Z m).toArray = X at HM ⊢
  have HX : Hid ((hd (.slice a n c) G T A Q Z m).toArray = X) := hX
  clear hX h hm hT hv
  go_enter Tryd.func26, Tryd.ntmps26
  go_wp2
  go_step3
  go_wp2
  go_step3
  go_wp2_with (first | (go_at_call 36; refine (rules_any _ w.heap.size).mono ?_; rintro e w1 ⟨rfl, rfl⟩; have HM : Hid _ := (HM.out.alloc (.cells #[.pointer (some ⟨w.heap.size, 0, none⟩)] 72) (by simp only [World.size_alloc]; rfl)).alloc (.cells (rc (w.heap.size + 1)).toArray 74) (by simp only [World.size_alloc]; rfl); simp only [World.size_alloc]))
  go_loopw [8, 5, 3] (fun i _ z wr => ∃ k : Nat, k ≤ 8 ∧ i = .int .i64 k ∧ z = .int .i64 0 ∧ fb ((kl n l G T A Q Z).drop k) = v ∧ M (fun _ => False) w wr [blk w.heap.size (.cells X 26), blk (w.heap.size + 1) (.cells #[.pointer (some ⟨w.heap.size, 0, none⟩)] 72), blk (w.heap.size + 1 + 1) (.cells (rc (w.heap.size + 1)).toArray 74)]) (fun i _ _ _ => 8 - (intOf i).toNat)
  case atStart => exact ⟨0, Nat.zero_le _, rfl, rfl, HV.out, by have := HM.out; (try simp only [World.size_alloc] at this); exact this⟩
  case round =>
    obtain ⟨k, hk, rfl, rfl, hf, hM⟩ := hrel
    have HM : Hid _ := hM
    have HF : Hid (fb ((kl n l G T A Q Z).drop k) = v) := hf
    clear hM hf
    rcases (by omega : k = 0 ∨ k = 1 ∨ k = 2 ∨ k = 3 ∨ k = 4 ∨ k = 5 ∨ k = 6 ∨ k = 7 ∨ k = 8) with rfl | rfl | rfl | rfl | rfl | rfl | rfl | rfl | rfl
    · have c0 := HM.out.cell 2 rfl 0 (v := .func (.func 58) #[] #[.pointer (some ⟨w.heap.size + 1, 0, none⟩)]) rfl
      have c1 := HM.out.cell 2 rfl 1 (v := .int .i64 6) rfl
      obtain ⟨b, hb⟩ : ∃ b, k1 n = b := ⟨_, rfl⟩
      have HB : Hid (k1 n = b) := hb
      have HF2 : Hid ((if b = true then (6 : Int) else fb ((kl n l G T A Q Z).drop 1)) = v) := by have e9 := HF.out; rw [show (kl n l G T A Q Z).drop 0 = (k1 n, 6) :: (kl n l G T A Q Z).drop 1 from rfl] at e9; unfold fb at e9; rw [hb] at e9; exact e9
      have HM : Hid (M (fun _ => False) w (wr.alloc (.cells #[.func (.func 58) #[] #[.pointer (some ⟨w.heap.size + 1, 0, none⟩)], .int .i64 6] 74)) [blk w.heap.size (.cells X 26), blk (w.heap.size + 1) (.cells #[.pointer (some ⟨w.heap.size, 0, none⟩)] 72), blk (w.heap.size + 1 + 1) (.cells (rc (w.heap.size + 1)).toArray 74), blk wr.heap.size (.cells #[.func (.func 58) #[] #[.pointer (some ⟨w.heap.size + 1, 0, none⟩)], .int .i64 6] 74)]) := HM.out.alloc (.cells #[.func (.func 58) #[] #[.pointer (some ⟨w.heap.size + 1, 0, none⟩)], .int .i64 6] 74) rfl
      clear hb
      simp only [show ((0 : Nat) : Int) = 0 from rfl]
      cases b
      · have e9 := HF2.out
        rw [if_neg (by decide)] at e9
        have HF3 : Hid _ := e9
        clear e9
        go_wp2_with (first | (refine St.wl_alloc tyR rfl rfl rfl ?_; simp only [Act.put, List.setIfInBounds_toArray, List.set_cons_zero, List.set_cons_succ]) | (refine St.wl_storeN tyR rfl rfl rfl rfl rfl rfl (show _ = Value.agg #[.func (.func 58) #[] #[.pointer (some ⟨w.heap.size + 1, 0, none⟩)], .int .i64 6] from rfl) rfl rfl (by simp [Value.oneCell']) ?_) | (go_at_call 58; refine (rule_1 _ (w.heap.size + 1) w.heap.size a n c G T A Q Z m (HM.out.cell 1 rfl 0 rfl) (h_at HM.out 0 rfl HX.out Hm.out) false HB.out).mono ?_; rintro e w5 ⟨rfl, h5⟩; have HM : Hid _ := HM.out.calm h5; clear h5; have d1 := HM.out.cell 3 rfl 1 (v := .int .i64 6) rfl))
        go_roundw
        case rel => exact ⟨1, by omega, rfl, rfl, HF3.out, HM.out.take 3⟩
        case measure => simp [intOf]
      · have e : v = 6 := by have e9 := HF2.out; rw [if_pos rfl] at e9; exact e9.symm
        subst e
        go_wp2_with (first | (refine St.wl_alloc tyR rfl rfl rfl ?_; simp only [Act.put, List.setIfInBounds_toArray, List.set_cons_zero, List.set_cons_succ]) | (refine St.wl_storeN tyR rfl rfl rfl rfl rfl rfl (show _ = Value.agg #[.func (.func 58) #[] #[.pointer (some ⟨w.heap.size + 1, 0, none⟩)], .int .i64 6] from rfl) rfl rfl (by simp [Value.oneCell']) ?_) | (go_at_call 58; refine (rule_1 _ (w.heap.size + 1) w.heap.size a n c G T A Q Z m (HM.out.cell 1 rfl 0 rfl) (h_at HM.out 0 rfl HX.out Hm.out) true HB.out).mono ?_; rintro e w5 ⟨rfl, h5⟩; have HM : Hid _ := HM.out.calm h5; clear h5; have d1 := HM.out.cell 3 rfl 1 (v := .int .i64 6) rfl))
        (try rw [Exit.noGoto_ret])
        go_ret
        exact ⟨rfl, HM.out.keep⟩
    · have c0 := HM.out.cell 2 rfl 2 (v := .func (.func 59) #[] #[.pointer (some ⟨w.heap.size + 1, 0, none⟩)]) rfl
      have c1 := HM.out.cell 2 rfl 3 (v := .int .i64 4) rfl
      obtain ⟨b, hb⟩ : ∃ b, (!isL l) = b := ⟨_, rfl⟩
      have HB : Hid (isL l = !b) := (by show isL l = !b; rw [← hb]; simp)
      have HF2 : Hid ((if b = true then (4 : Int) else fb ((kl n l G T A Q Z).drop 2)) = v) := by have e9 := HF.out; rw [show (kl n l G T A Q Z).drop 1 = ((!isL l), 4) :: (kl n l G T A Q Z).drop 2 from rfl] at e9; unfold fb at e9; rw [hb] at e9; exact e9
      have HM : Hid (M (fun _ => False) w (wr.alloc (.cells #[.func (.func 59) #[] #[.pointer (some ⟨w.heap.size + 1, 0, none⟩)], .int .i64 4] 74)) [blk w.heap.size (.cells X 26), blk (w.heap.size + 1) (.cells #[.pointer (some ⟨w.heap.size, 0, none⟩)] 72), blk (w.heap.size + 1 + 1) (.cells (rc (w.heap.size + 1)).toArray 74), blk wr.heap.size (.cells #[.func (.func 59) #[] #[.pointer (some ⟨w.heap.size + 1, 0, none⟩)], .int .i64 4] 74)]) := HM.out.alloc (.cells #[.func (.func 59) #[] #[.pointer (some ⟨w.heap.size + 1, 0, none⟩)], .int .i64 4] 74) rfl
      clear hb
      simp only [show ((1 : Nat) : Int) = 1 from rfl]
      cases b
      · have e9 := HF2.out
        rw [if_neg (by decide)] at e9
        have HF3 : Hid _ := e9
        clear e9
        go_wp2_with (first | (refine St.wl_alloc tyR rfl rfl rfl ?_; simp only [Act.put, List.setIfInBounds_toArray, List.set_cons_zero, List.set_cons_succ]) | (refine St.wl_storeN tyR rfl rfl rfl rfl rfl rfl (show _ = Value.agg #[.func (.func 59) #[] #[.pointer (some ⟨w.heap.size + 1, 0, none⟩)], .int .i64 4] from rfl) rfl rfl (by simp [Value.oneCell']) ?_) | (go_at_call 59; refine (rule_2 _ (w.heap.size + 1) w.heap.size a n c G T A Q Z m (HM.out.cell 1 rfl 0 rfl) (h_at HM.out 0 rfl HX.out Hm.out) l (A0.out.calm HM.out.keep) (by omega) false HB.out).mono ?_; rintro e w5 ⟨rfl, h5⟩; have HM : Hid _ := HM.out.calm h5; clear h5; have d1 := HM.out.cell 3 rfl 1 (v := .int .i64 4) rfl))
        go_roundw
        case rel => exact ⟨2, by omega, rfl, rfl, HF3.out, HM.out.take 3⟩
        case measure => simp [intOf]
      · have e : v = 4 := by have e9 := HF2.out; rw [if_pos rfl] at e9; exact e9.symm
        subst e
        go_wp2_with (first | (refine St.wl_alloc tyR rfl rfl rfl ?_; simp only [Act.put, List.setIfInBounds_toArray, List.set_cons_zero, List.set_cons_succ]) | (refine St.wl_storeN tyR rfl rfl rfl rfl rfl rfl (show _ = Value.agg #[.func (.func 59) #[] #[.pointer (some ⟨w.heap.size + 1, 0, none⟩)], .int .i64 4] from rfl) rfl rfl (by simp [Value.oneCell']) ?_) | (go_at_call 59; refine (rule_2 _ (w.heap.size + 1) w.heap.size a n c G T A Q Z m (HM.out.cell 1 rfl 0 rfl) (h_at HM.out 0 rfl HX.out Hm.out) l (A0.out.calm HM.out.keep) (by omega) true HB.out).mono ?_; rintro e w5 ⟨rfl, h5⟩; have HM : Hid _ := HM.out.calm h5; clear h5; have d1 := HM.out.cell 3 rfl 1 (v := .int .i64 4) rfl))
        (try rw [Exit.noGoto_ret])
        go_ret
        exact ⟨rfl, HM.out.keep⟩
    · have c0 := HM.out.cell 2 rfl 4 (v := .func (.func 61) #[] #[.pointer (some ⟨w.heap.size + 1, 0, none⟩)]) rfl
      have c1 := HM.out.cell 2 rfl 5 (v := .int .i64 12) rfl
      obtain ⟨b, hb⟩ : ∃ b, k3 G = b := ⟨_, rfl⟩
      have HB : Hid (k3 G = b) := hb
      have HF2 : Hid ((if b = true then (12 : Int) else fb ((kl n l G T A Q Z).drop 3)) = v) := by have e9 := HF.out; rw [show (kl n l G T A Q Z).drop 2 = (k3 G, 12) :: (kl n l G T A Q Z).drop 3 from rfl] at e9; unfold fb at e9; rw [hb] at e9; exact e9
      have HM : Hid (M (fun _ => False) w (wr.alloc (.cells #[.func (.func 61) #[] #[.pointer (some ⟨w.heap.size + 1, 0, none⟩)], .int .i64 12] 74)) [blk w.heap.size (.cells X 26), blk (w.heap.size + 1) (.cells #[.pointer (some ⟨w.heap.size, 0, none⟩)] 72), blk (w.heap.size + 1 + 1) (.cells (rc (w.heap.size + 1)).toArray 74), blk wr.heap.size (.cells #[.func (.func 61) #[] #[.pointer (some ⟨w.heap.size + 1, 0, none⟩)], .int .i64 12] 74)]) := HM.out.alloc (.cells #[.func (.func 61) #[] #[.pointer (some ⟨w.heap.size + 1, 0, none⟩)], .int .i64 12] 74) rfl
      clear hb
      simp only [show ((2 : Nat) : Int) = 2 from rfl]
      cases b
      · have e9 := HF2.out
        rw [if_neg (by decide)] at e9
        have HF3 : Hid _ := e9
        clear e9
        go_wp2_with (first | (refine St.wl_alloc tyR rfl rfl rfl ?_; simp only [Act.put, List.setIfInBounds_toArray, List.set_cons_zero, List.set_cons_succ]) | (refine St.wl_storeN tyR rfl rfl rfl rfl rfl rfl (show _ = Value.agg #[.func (.func 61) #[] #[.pointer (some ⟨w.heap.size + 1, 0, none⟩)], .int .i64 12] from rfl) rfl rfl (by simp [Value.oneCell']) ?_) | (go_at_call 61; refine (rule_3 _ (w.heap.size + 1) w.heap.size a n c G T A Q Z m (HM.out.cell 1 rfl 0 rfl) (h_at HM.out 0 rfl HX.out Hm.out) false HB.out).mono ?_; rintro e w5 ⟨rfl, h5⟩; have HM : Hid _ := HM.out.calm h5; clear h5; have d1 := HM.out.cell 3 rfl 1 (v := .int .i64 12) rfl))
        go_roundw
        case rel => exact ⟨3, by omega, rfl, rfl, HF3.out, HM.out.take 3⟩
        case measure => simp [intOf]
      · have e : v = 12 := by have e9 := HF2.out; rw [if_pos rfl] at e9; exact e9.symm
        subst e
        go_wp2_with (first | (refine St.wl_alloc tyR rfl rfl rfl ?_; simp only [Act.put, List.setIfInBounds_toArray, List.set_cons_zero, List.set_cons_succ]) | (refine St.wl_storeN tyR rfl rfl rfl rfl rfl rfl (show _ = Value.agg #[.func (.func 61) #[] #[.pointer (some ⟨w.heap.size + 1, 0, none⟩)], .int .i64 12] from rfl) rfl rfl (by simp [Value.oneCell']) ?_) | (go_at_call 61; refine (rule_3 _ (w.heap.size + 1) w.heap.size a n c G T A Q Z m (HM.out.cell 1 rfl 0 rfl) (h_at HM.out 0 rfl HX.out Hm.out) true HB.out).mono ?_; rintro e w5 ⟨rfl, h5⟩; have HM : Hid _ := HM.out.calm h5; clear h5; have d1 := HM.out.cell 3 rfl 1 (v := .int .i64 12) rfl))
        (try rw [Exit.noGoto_ret])
        go_ret
        exact ⟨rfl, HM.out.keep⟩
    · have c0 := HM.out.cell 2 rfl 6 (v := .func (.func 62) #[] #[.pointer (some ⟨w.heap.size + 1, 0, none⟩)]) rfl
      have c1 := HM.out.cell 2 rfl 7 (v := .int .i64 12) rfl
      obtain ⟨b, hb⟩ : ∃ b, k4 n G = b := ⟨_, rfl⟩
      have HB : Hid (k4 n G = b) := hb
      have HF2 : Hid ((if b = true then (12 : Int) else fb ((kl n l G T A Q Z).drop 4)) = v) := by have e9 := HF.out; rw [show (kl n l G T A Q Z).drop 3 = (k4 n G, 12) :: (kl n l G T A Q Z).drop 4 from rfl] at e9; unfold fb at e9; rw [hb] at e9; exact e9
      have HM : Hid (M (fun _ => False) w (wr.alloc (.cells #[.func (.func 62) #[] #[.pointer (some ⟨w.heap.size + 1, 0, none⟩)], .int .i64 12] 74)) [blk w.heap.size (.cells X 26), blk (w.heap.size + 1) (.cells #[.pointer (some ⟨w.heap.size, 0, none⟩)] 72), blk (w.heap.size + 1 + 1) (.cells (rc (w.heap.size + 1)).toArray 74), blk wr.heap.size (.cells #[.func (.func 62) #[] #[.pointer (some ⟨w.heap.size + 1, 0, none⟩)], .int .i64 12] 74)]) := HM.out.alloc (.cells #[.func (.func 62) #[] #[.pointer (some ⟨w.heap.size + 1, 0, none⟩)], .int .i64 12] 74) rfl
      clear hb
      simp only [show ((3 : Nat) : Int) = 3 from rfl]
      cases b
      · have e9 := HF2.out
        rw [if_neg (by decide)] at e9
        have HF3 : Hid _ := e9
        clear e9
        go_wp2_with (first | (refine St.wl_alloc tyR rfl rfl rfl ?_; simp only [Act.put, List.setIfInBounds_toArray, List.set_cons_zero, List.set_cons_succ]) | (refine St.wl_storeN tyR rfl rfl rfl rfl rfl rfl (show _ = Value.agg #[.func (.func 62) #[] #[.pointer (some ⟨w.heap.size + 1, 0, none⟩)], .int .i64 12] from rfl) rfl rfl (by simp [Value.oneCell']) ?_) | (go_at_call 62; refine (rule_4 _ (w.heap.size + 1) w.heap.size a n c G T A Q Z m (HM.out.cell 1 rfl 0 rfl) (h_at HM.out 0 rfl HX.out Hm.out) (by omega) false HB.out).mono ?_; rintro e w5 ⟨rfl, h5⟩; have HM : Hid _ := HM.out.calm h5; clear h5; have d1 := HM.out.cell 3 rfl 1 (v := .int .i64 12) rfl))
        go_roundw
        case rel => exact ⟨4, by omega, rfl, rfl, HF3.out, HM.out.take 3⟩
        case measure => simp [intOf]
      · have e : v = 12 := by have e9 := HF2.out; rw [if_pos rfl] at e9; exact e9.symm
        subst e
        go_wp2_with (first | (refine St.wl_alloc tyR rfl rfl rfl ?_; simp only [Act.put, List.setIfInBounds_toArray, List.set_cons_zero, List.set_cons_succ]) | (refine St.wl_storeN tyR rfl rfl rfl rfl rfl rfl (show _ = Value.agg #[.func (.func 62) #[] #[.pointer (some ⟨w.heap.size + 1, 0, none⟩)], .int .i64 12] from rfl) rfl rfl (by simp [Value.oneCell']) ?_) | (go_at_call 62; refine (rule_4 _ (w.heap.size + 1) w.heap.size a n c G T A Q Z m (HM.out.cell 1 rfl 0 rfl) (h_at HM.out 0 rfl HX.out Hm.out) (by omega) true HB.out).mono ?_; rintro e w5 ⟨rfl, h5⟩; have HM : Hid _ := HM.out.calm h5; clear h5; have d1 := HM.out.cell 3 rfl 1 (v := .int .i64 12) rfl))
        (try rw [Exit.noGoto_ret])
        go_ret
        exact ⟨rfl, HM.out.keep⟩
    · have c0 := HM.out.cell 2 rfl 8 (v := .func (.func 63) #[] #[.pointer (some ⟨w.heap.size + 1, 0, none⟩)]) rfl
      have c1 := HM.out.cell 2 rfl 9 (v := .int .i64 9) rfl
      obtain ⟨b, hb⟩ : ∃ b, k5 T = b := ⟨_, rfl⟩
      have HB : Hid (k5 T = b) := hb
      have HF2 : Hid ((if b = true then (9 : Int) else fb ((kl n l G T A Q Z).drop 5)) = v) := by have e9 := HF.out; rw [show (kl n l G T A Q Z).drop 4 = (k5 T, 9) :: (kl n l G T A Q Z).drop 5 from rfl] at e9; unfold fb at e9; rw [hb] at e9; exact e9
      have HM : Hid (M (fun _ => False) w (wr.alloc (.cells #[.func (.func 63) #[] #[.pointer (some ⟨w.heap.size + 1, 0, none⟩)], .int .i64 9] 74)) [blk w.heap.size (.cells X 26), blk (w.heap.size + 1) (.cells #[.pointer (some ⟨w.heap.size, 0, none⟩)] 72), blk (w.heap.size + 1 + 1) (.cells (rc (w.heap.size + 1)).toArray 74), blk wr.heap.size (.cells #[.func (.func 63) #[] #[.pointer (some ⟨w.heap.size + 1, 0, none⟩)], .int .i64 9] 74)]) := HM.out.alloc (.cells #[.func (.func 63) #[] #[.pointer (some ⟨w.heap.size + 1, 0, none⟩)], .int .i64 9] 74) rfl
      clear hb
      simp only [show ((4 : Nat) : Int) = 4 from rfl]
      cases b
      · have e9 := HF2.out
        rw [if_neg (by decide)] at e9
        have HF3 : Hid _ := e9
        clear e9
        go_wp2_with (first | (refine St.wl_alloc tyR rfl rfl rfl ?_; simp only [Act.put, List.setIfInBounds_toArray, List.set_cons_zero, List.set_cons_succ]) | (refine St.wl_storeN tyR rfl rfl rfl rfl rfl rfl (show _ = Value.agg #[.func (.func 63) #[] #[.pointer (some ⟨w.heap.size + 1, 0, none⟩)], .int .i64 9] from rfl) rfl rfl (by simp [Value.oneCell']) ?_) | (go_at_call 63; refine (rule_5 _ (w.heap.size + 1) w.heap.size a n c G T A Q Z m (HM.out.cell 1 rfl 0 rfl) (h_at HM.out 0 rfl HX.out Hm.out) HTz.out false HB.out).mono ?_; rintro e w5 ⟨rfl, h5⟩; have HM : Hid _ := HM.out.calm h5; clear h5; have d1 := HM.out.cell 3 rfl 1 (v := .int .i64 9) rfl))
        go_roundw
        case rel => exact ⟨5, by omega, rfl, rfl, HF3.out, HM.out.take 3⟩
        case measure => simp [intOf]
      · have e : v = 9 := by have e9 := HF2.out; rw [if_pos rfl] at e9; exact e9.symm
        subst e
        go_wp2_with (first | (refine St.wl_alloc tyR rfl rfl rfl ?_; simp only [Act.put, List.setIfInBounds_toArray, List.set_cons_zero, List.set_cons_succ]) | (refine St.wl_storeN tyR rfl rfl rfl rfl rfl rfl (show _ = Value.agg #[.func (.func 63) #[] #[.pointer (some ⟨w.heap.size + 1, 0, none⟩)], .int .i64 9] from rfl) rfl rfl (by simp [Value.oneCell']) ?_) | (go_at_call 63; refine (rule_5 _ (w.heap.size + 1) w.heap.size a n c G T A Q Z m (HM.out.cell 1 rfl 0 rfl) (h_at HM.out 0 rfl HX.out Hm.out) HTz.out true HB.out).mono ?_; rintro e w5 ⟨rfl, h5⟩; have HM : Hid _ := HM.out.calm h5; clear h5; have d1 := HM.out.cell 3 rfl 1 (v := .int .i64 9) rfl))
        (try rw [Exit.noGoto_ret])
        go_ret
        exact ⟨rfl, HM.out.keep⟩
    · have c0 := HM.out.cell 2 rfl 10 (v := .func (.func 65) #[] #[.pointer (some ⟨w.heap.size + 1, 0, none⟩)]) rfl
      have c1 := HM.out.cell 2 rfl 11 (v := .int .i64 5) rfl
      obtain ⟨b, hb⟩ : ∃ b, k6 A = b := ⟨_, rfl⟩
      have HB : Hid (k6 A = b) := hb
      have HF2 : Hid ((if b = true then (5 : Int) else fb ((kl n l G T A Q Z).drop 6)) = v) := by have e9 := HF.out; rw [show (kl n l G T A Q Z).drop 5 = (k6 A, 5) :: (kl n l G T A Q Z).drop 6 from rfl] at e9; unfold fb at e9; rw [hb] at e9; exact e9
      have HM : Hid (M (fun _ => False) w (wr.alloc (.cells #[.func (.func 65) #[] #[.pointer (some ⟨w.heap.size + 1, 0, none⟩)], .int .i64 5] 74)) [blk w.heap.size (.cells X 26), blk (w.heap.size + 1) (.cells #[.pointer (some ⟨w.heap.size, 0, none⟩)] 72), blk (w.heap.size + 1 + 1) (.cells (rc (w.heap.size + 1)).toArray 74), blk wr.heap.size (.cells #[.func (.func 65) #[] #[.pointer (some ⟨w.heap.size + 1, 0, none⟩)], .int .i64 5] 74)]) := HM.out.alloc (.cells #[.func (.func 65) #[] #[.pointer (some ⟨w.heap.size + 1, 0, none⟩)], .int .i64 5] 74) rfl
      clear hb
      simp only [show ((5 : Nat) : Int) = 5 from rfl]
      cases b
      · have e9 := HF2.out
        rw [if_neg (by decide)] at e9
        have HF3 : Hid _ := e9
        clear e9
        go_wp2_with (first | (refine St.wl_alloc tyR rfl rfl rfl ?_; simp only [Act.put, List.setIfInBounds_toArray, List.set_cons_zero, List.set_cons_succ]) | (refine St.wl_storeN tyR rfl rfl rfl rfl rfl rfl (show _ = Value.agg #[.func (.func 65) #[] #[.pointer (some ⟨w.heap.size + 1, 0, none⟩)], .int .i64 5] from rfl) rfl rfl (by simp [Value.oneCell']) ?_) | (go_at_call 65; refine (rule_6 _ (w.heap.size + 1) w.heap.size a n c G T A Q Z m (HM.out.cell 1 rfl 0 rfl) (h_at HM.out 0 rfl HX.out Hm.out) false HB.out).mono ?_; rintro e w5 ⟨rfl, h5⟩; have HM : Hid _ := HM.out.calm h5; clear h5; have d1 := HM.out.cell 3 rfl 1 (v := .int .i64 5) rfl))
        go_roundw
        case rel => exact ⟨6, by omega, rfl, rfl, HF3.out, HM.out.take 3⟩
        case measure => simp [intOf]
      · have e : v = 5 := by have e9 := HF2.out; rw [if_pos rfl] at e9; exact e9.symm
        subst e
        go_wp2_with (first | (refine St.wl_alloc tyR rfl rfl rfl ?_; simp only [Act.put, List.setIfInBounds_toArray, List.set_cons_zero, List.set_cons_succ]) | (refine St.wl_storeN tyR rfl rfl rfl rfl rfl rfl (show _ = Value.agg #[.func (.func 65) #[] #[.pointer (some ⟨w.heap.size + 1, 0, none⟩)], .int .i64 5] from rfl) rfl rfl (by simp [Value.oneCell']) ?_) | (go_at_call 65; refine (rule_6 _ (w.heap.size + 1) w.heap.size a n c G T A Q Z m (HM.out.cell 1 rfl 0 rfl) (h_at HM.out 0 rfl HX.out Hm.out) true HB.out).mono ?_; rintro e w5 ⟨rfl, h5⟩; have HM : Hid _ := HM.out.calm h5; clear h5; have d1 := HM.out.cell 3 rfl 1 (v := .int .i64 5) rfl))
        (try rw [Exit.noGoto_ret])
        go_ret
        exact ⟨rfl, HM.out.keep⟩
    · have c0 := HM.out.cell 2 rfl 12 (v := .func (.func 66) #[] #[.pointer (some ⟨w.heap.size + 1, 0, none⟩)]) rfl
      have c1 := HM.out.cell 2 rfl 13 (v := .int .i64 5) rfl
      obtain ⟨b, hb⟩ : ∃ b, k7 Q = b := ⟨_, rfl⟩
      have HB : Hid (k7 Q = b) := hb
      have HF2 : Hid ((if b = true then (5 : Int) else fb ((kl n l G T A Q Z).drop 7)) = v) := by have e9 := HF.out; rw [show (kl n l G T A Q Z).drop 6 = (k7 Q, 5) :: (kl n l G T A Q Z).drop 7 from rfl] at e9; unfold fb at e9; rw [hb] at e9; exact e9
      have HM : Hid (M (fun _ => False) w (wr.alloc (.cells #[.func (.func 66) #[] #[.pointer (some ⟨w.heap.size + 1, 0, none⟩)], .int .i64 5] 74)) [blk w.heap.size (.cells X 26), blk (w.heap.size + 1) (.cells #[.pointer (some ⟨w.heap.size, 0, none⟩)] 72), blk (w.heap.size + 1 + 1) (.cells (rc (w.heap.size + 1)).toArray 74), blk wr.heap.size (.cells #[.func (.func 66) #[] #[.pointer (some ⟨w.heap.size + 1, 0, none⟩)], .int .i64 5] 74)]) := HM.out.alloc (.cells #[.func (.func 66) #[] #[.pointer (some ⟨w.heap.size + 1, 0, none⟩)], .int .i64 5] 74) rfl
      clear hb
      simp only [show ((6 : Nat) : Int) = 6 from rfl]
      cases b
      · have e9 := HF2.out
        rw [if_neg (by decide)] at e9
        have HF3 : Hid _ := e9
        clear e9
        go_wp2_with (first | (refine St.wl_alloc tyR rfl rfl rfl ?_; simp only [Act.put, List.setIfInBounds_toArray, List.set_cons_zero, List.set_cons_succ]) | (refine St.wl_storeN tyR rfl rfl rfl rfl rfl rfl (show _ = Value.agg #[.func (.func 66) #[] #[.pointer (some ⟨w.heap.size + 1, 0, none⟩)], .int .i64 5] from rfl) rfl rfl (by simp [Value.oneCell']) ?_) | (go_at_call 66; refine (rule_7 _ (w.heap.size + 1) w.heap.size a n c G T A Q Z m (HM.out.cell 1 rfl 0 rfl) (h_at HM.out 0 rfl HX.out Hm.out) false HB.out).mono ?_; rintro e w5 ⟨rfl, h5⟩; have HM : Hid _ := HM.out.calm h5; clear h5; have d1 := HM.out.cell 3 rfl 1 (v := .int .i64 5) rfl))
        go_roundw
        case rel => exact ⟨7, by omega, rfl, rfl, HF3.out, HM.out.take 3⟩
        case measure => simp [intOf]
      · have e : v = 5 := by have e9 := HF2.out; rw [if_pos rfl] at e9; exact e9.symm
        subst e
        go_wp2_with (first | (refine St.wl_alloc tyR rfl rfl rfl ?_; simp only [Act.put, List.setIfInBounds_toArray, List.set_cons_zero, List.set_cons_succ]) | (refine St.wl_storeN tyR rfl rfl rfl rfl rfl rfl (show _ = Value.agg #[.func (.func 66) #[] #[.pointer (some ⟨w.heap.size + 1, 0, none⟩)], .int .i64 5] from rfl) rfl rfl (by simp [Value.oneCell']) ?_) | (go_at_call 66; refine (rule_7 _ (w.heap.size + 1) w.heap.size a n c G T A Q Z m (HM.out.cell 1 rfl 0 rfl) (h_at HM.out 0 rfl HX.out Hm.out) true HB.out).mono ?_; rintro e w5 ⟨rfl, h5⟩; have HM : Hid _ := HM.out.calm h5; clear h5; have d1 := HM.out.cell 3 rfl 1 (v := .int .i64 5) rfl))
        (try rw [Exit.noGoto_ret])
        go_ret
        exact ⟨rfl, HM.out.keep⟩
    · have c0 := HM.out.cell 2 rfl 14 (v := .func (.func 67) #[] #[.pointer (some ⟨w.heap.size + 1, 0, none⟩)]) rfl
      have c1 := HM.out.cell 2 rfl 15 (v := .int .i64 5) rfl
      obtain ⟨b, hb⟩ : ∃ b, k8 Z = b := ⟨_, rfl⟩
      have HB : Hid (k8 Z = b) := hb
      have HF2 : Hid ((if b = true then (5 : Int) else fb ((kl n l G T A Q Z).drop 8)) = v) := by have e9 := HF.out; rw [show (kl n l G T A Q Z).drop 7 = (k8 Z, 5) :: (kl n l G T A Q Z).drop 8 from rfl] at e9; unfold fb at e9; rw [hb] at e9; exact e9
      have HM : Hid (M (fun _ => False) w (wr.alloc (.cells #[.func (.func 67) #[] #[.pointer (some ⟨w.heap.size + 1, 0, none⟩)], .int .i64 5] 74)) [blk w.heap.size (.cells X 26), blk (w.heap.size + 1) (.cells #[.pointer (some ⟨w.heap.size, 0, none⟩)] 72), blk (w.heap.size + 1 + 1) (.cells (rc (w.heap.size + 1)).toArray 74), blk wr.heap.size (.cells #[.func (.func 67) #[] #[.pointer (some ⟨w.heap.size + 1, 0, none⟩)], .int .i64 5] 74)]) := HM.out.alloc (.cells #[.func (.func 67) #[] #[.pointer (some ⟨w.heap.size + 1, 0, none⟩)], .int .i64 5] 74) rfl
      clear hb
      simp only [show ((7 : Nat) : Int) = 7 from rfl]
      cases b
      · have e9 := HF2.out
        rw [if_neg (by decide)] at e9
        have HF3 : Hid _ := e9
        clear e9
        go_wp2_with (first | (refine St.wl_alloc tyR rfl rfl rfl ?_; simp only [Act.put, List.setIfInBounds_toArray, List.set_cons_zero, List.set_cons_succ]) | (refine St.wl_storeN tyR rfl rfl rfl rfl rfl rfl (show _ = Value.agg #[.func (.func 67) #[] #[.pointer (some ⟨w.heap.size + 1, 0, none⟩)], .int .i64 5] from rfl) rfl rfl (by simp [Value.oneCell']) ?_) | (go_at_call 67; refine (rule_8 _ (w.heap.size + 1) w.heap.size a n c G T A Q Z m (HM.out.cell 1 rfl 0 rfl) (h_at HM.out 0 rfl HX.out Hm.out) false HB.out).mono ?_; rintro e w5 ⟨rfl, h5⟩; have HM : Hid _ := HM.out.calm h5; clear h5; have d1 := HM.out.cell 3 rfl 1 (v := .int .i64 5) rfl))
        go_roundw
        case rel => exact ⟨8, by omega, rfl, rfl, HF3.out, HM.out.take 3⟩
        case measure => simp [intOf]
      · have e : v = 5 := by have e9 := HF2.out; rw [if_pos rfl] at e9; exact e9.symm
        subst e
        go_wp2_with (first | (refine St.wl_alloc tyR rfl rfl rfl ?_; simp only [Act.put, List.setIfInBounds_toArray, List.set_cons_zero, List.set_cons_succ]) | (refine St.wl_storeN tyR rfl rfl rfl rfl rfl rfl (show _ = Value.agg #[.func (.func 67) #[] #[.pointer (some ⟨w.heap.size + 1, 0, none⟩)], .int .i64 5] from rfl) rfl rfl (by simp [Value.oneCell']) ?_) | (go_at_call 67; refine (rule_8 _ (w.heap.size + 1) w.heap.size a n c G T A Q Z m (HM.out.cell 1 rfl 0 rfl) (h_at HM.out 0 rfl HX.out Hm.out) true HB.out).mono ?_; rintro e w5 ⟨rfl, h5⟩; have HM : Hid _ := HM.out.calm h5; clear h5; have d1 := HM.out.cell 3 rfl 1 (v := .int .i64 5) rfl))
        (try rw [Exit.noGoto_ret])
        go_ret
        exact ⟨rfl, HM.out.keep⟩
    · have e : v = 0 := HF.out.symm
      subst e
      simp only [show ((8 : Nat) : Int) = 8 from rfl]
      go_wp2
      (try rw [Exit.noGoto_ret])
      go_ret
      exact ⟨rfl, HM.out.keep⟩
end Hd
end Go.Proofs.YthllhjdaknmlbaaDoor
