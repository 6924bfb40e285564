/-
  petrelref08.Check. petrelref08: num, raw, Put. petrelref08.Ident; both by one law.
-/
import Derived.Test.YtgllkfolckbdhaaGreatDoorGHb
import Derived.Test.YtgllkfolckbdhaaGreatDoorGTp
import Derived.Test.YtgllkfolckbdhaaGreatDoorGRd
import Derived.Test.YtgllkfolckbdhaaGreatDoorGId
import Derived.Test.YtgllkfolckbdhaaGreatDoorGOp
import Derived.Test.YtgllkfolckbdhaaGreatDoorGS2
set_option linter.unusedVariables false
set_option linter.unusedSimpArgs false

namespace Go.Proofs.YtgllkfolckbdhaaGreatDoor
open Go.RowKit
namespace Hd
open Oct Ids Gn
open Mem (M blk)
open Tp (tk)

theorem ck_eq (n : Nat) (l : List (List UInt8)) (G : Int) (T : ByteArray) (A Q Z : Int) : ck n l G T A Q Z = (if 4 < n then 6 else if isL l = false then 4 else if G < 1 ∨ 1073741824 < G then 12 else if ((n == 0) != (G == 1)) = true then 12 else if tk T = 0 then 9 else if A < 0 ∨ 255 < A then 5 else if Q < 1 ∨ 1073741824 < Q then 5 else if Z < 1 ∨ 512 < Z then 5 else 0) := by
  unfold ck kl k1 k3 k4 k5 k6 k7 k8
  simp only [fb, decide_eq_true_eq, Bool.not_eq_true']
set_option maxRecDepth 100000 in
set_option maxHeartbeats 4000000 in
theorem rcheck_any (w : World) (a : Option Addr) (n c : Nat) (l : List (List UInt8)) (G : Int) (T : ByteArray) (A Q Z : Int) (m : List UInt8) (h : At w a n l) (hm : m.length = 32) (hT : T.size ≤ maxLen) (v : Int) (hv : ck n l G T A Q Z = v) :
    Calls Tryz.prog 35 #[.agg (hd (.slice a n c) G T A Q Z m).toArray] w fun e w' => e = .returned (.int .i64 v) ∧ Keep (fun _ => False) w w' := by
  subst hv
  have hmost := h.most
  unfold maxLen at hmost
  have HTz : Hid (T.size ≤ maxLen) := hT
  have hgd := guard_id
  by_cases hn : 4 < n
  · skip
    have e : ck n l G T A Q Z = 6 := by rw [ck_eq]; rw [if_pos hn]
    rw [e]
    clear e
    have A1 : Hid (At w a n l) := h
    have Hr : Hid (m.length = 32) := hm
    have HM : Hid (M (fun _ => False) w _ [blk w.heap.size (.cells (hd (.slice a n c) G T A Q Z m).toArray 28)]) := (M.start _ w).alloc (.cells (hd (.slice a n c) G T A Q Z m).toArray 28) rfl
    have E1 : Hid _ := h_at HM.out 0 rfl rfl hm
    obtain ⟨g0, g1, g2, g3, g4, g5⟩ := E1.out.cells
    generalize hX : (hd (.slice a n c) G T A Q Z m).toArray = X at HM E1 g0 g1 g2 g3 g4 g5 ⊢
    have HX : Hid _ := hX
    clear hX h hm
    go_enter Tryz.func35, Tryz.ntmps35
    go_wp2_with (first | (go_at_call 66; refine (xis_v _ a n c l (A1.out.calm HM.out.keep) (by omega) _ HI.out).mono ?_; rintro e w3 ⟨rfl, h3⟩; have HM : Hid _ := HM.out.calm h3; clear h3; have E1 : Hid _ := h_at HM.out 0 rfl HX.out Hr.out; obtain ⟨g0, g1, g2, g3, g4, g5⟩ := E1.out.cells) | (go_at_call 67; refine (Tp.rkind_any _ T HTz.out).mono ?_; rw [HK.out]; rintro e w4 ⟨rfl, h3⟩; have HM : Hid _ := HM.out.calm h3; clear h3; have E1 : Hid _ := h_at HM.out 0 rfl HX.out Hr.out; obtain ⟨g0, g1, g2, g3, g4, g5⟩ := E1.out.cells))
    go_ret
    exact ⟨rfl, HM.out.keep⟩
  have hn4 : n ≤ 4 := by omega
  by_cases hi : isL l = false
  · have HI : Hid (isL l = false) := hi
    have e : ck n l G T A Q Z = 4 := by rw [ck_eq]; rw [if_neg hn, if_pos hi]
    rw [e]
    clear e
    have A1 : Hid (At w a n l) := h
    have Hr : Hid (m.length = 32) := hm
    have HM : Hid (M (fun _ => False) w _ [blk w.heap.size (.cells (hd (.slice a n c) G T A Q Z m).toArray 28)]) := (M.start _ w).alloc (.cells (hd (.slice a n c) G T A Q Z m).toArray 28) rfl
    have E1 : Hid _ := h_at HM.out 0 rfl rfl hm
    obtain ⟨g0, g1, g2, g3, g4, g5⟩ := E1.out.cells
    generalize hX : (hd (.slice a n c) G T A Q Z m).toArray = X at HM E1 g0 g1 g2 g3 g4 g5 ⊢
    have HX : Hid _ := hX
    clear hX h hm
    go_enter Tryz.func35, Tryz.ntmps35
    go_wp2_with (first | (go_at_call 66; refine (xis_v _ a n c l (A1.out.calm HM.out.keep) (by omega) _ HI.out).mono ?_; rintro e w3 ⟨rfl, h3⟩; have HM : Hid _ := HM.out.calm h3; clear h3; have E1 : Hid _ := h_at HM.out 0 rfl HX.out Hr.out; obtain ⟨g0, g1, g2, g3, g4, g5⟩ := E1.out.cells) | (go_at_call 67; refine (Tp.rkind_any _ T HTz.out).mono ?_; rw [HK.out]; rintro e w4 ⟨rfl, h3⟩; have HM : Hid _ := HM.out.calm h3; clear h3; have E1 : Hid _ := h_at HM.out 0 rfl HX.out Hr.out; obtain ⟨g0, g1, g2, g3, g4, g5⟩ := E1.out.cells))
    go_ret
    exact ⟨rfl, HM.out.keep⟩
  have HI : Hid (isL l = true) := (by simpa using hi : isL l = true)
  by_cases hG1 : G < 1
  · skip
    have e : ck n l G T A Q Z = 12 := by rw [ck_eq]; rw [if_neg hn, if_neg hi, if_pos (.inl hG1)]
    rw [e]
    clear e
    have A1 : Hid (At w a n l) := h
    have Hr : Hid (m.length = 32) := hm
    have HM : Hid (M (fun _ => False) w _ [blk w.heap.size (.cells (hd (.slice a n c) G T A Q Z m).toArray 28)]) := (M.start _ w).alloc (.cells (hd (.slice a n c) G T A Q Z m).toArray 28) rfl
    have E1 : Hid _ := h_at HM.out 0 rfl rfl hm
    obtain ⟨g0, g1, g2, g3, g4, g5⟩ := E1.out.cells
    generalize hX : (hd (.slice a n c) G T A Q Z m).toArray = X at HM E1 g0 g1 g2 g3 g4 g5 ⊢
    have HX : Hid _ := hX
    clear hX h hm
    go_enter Tryz.func35, Tryz.ntmps35
    go_wp2_with (first | (go_at_call 66; refine (xis_v _ a n c l (A1.out.calm HM.out.keep) (by omega) _ HI.out).mono ?_; rintro e w3 ⟨rfl, h3⟩; have HM : Hid _ := HM.out.calm h3; clear h3; have E1 : Hid _ := h_at HM.out 0 rfl HX.out Hr.out; obtain ⟨g0, g1, g2, g3, g4, g5⟩ := E1.out.cells) | (go_at_call 67; refine (Tp.rkind_any _ T HTz.out).mono ?_; rw [HK.out]; rintro e w4 ⟨rfl, h3⟩; have HM : Hid _ := HM.out.calm h3; clear h3; have E1 : Hid _ := h_at HM.out 0 rfl HX.out Hr.out; obtain ⟨g0, g1, g2, g3, g4, g5⟩ := E1.out.cells))
    go_ret
    exact ⟨rfl, HM.out.keep⟩
  by_cases hG2 : 1073741824 < G
  · skip
    have e : ck n l G T A Q Z = 12 := by rw [ck_eq]; rw [if_neg hn, if_neg hi, if_pos (.inr hG2)]
    rw [e]
    clear e
    have A1 : Hid (At w a n l) := h
    have Hr : Hid (m.length = 32) := hm
    have HM : Hid (M (fun _ => False) w _ [blk w.heap.size (.cells (hd (.slice a n c) G T A Q Z m).toArray 28)]) := (M.start _ w).alloc (.cells (hd (.slice a n c) G T A Q Z m).toArray 28) rfl
    have E1 : Hid _ := h_at HM.out 0 rfl rfl hm
    obtain ⟨g0, g1, g2, g3, g4, g5⟩ := E1.out.cells
    generalize hX : (hd (.slice a n c) G T A Q Z m).toArray = X at HM E1 g0 g1 g2 g3 g4 g5 ⊢
    have HX : Hid _ := hX
    clear hX h hm
    go_enter Tryz.func35, Tryz.ntmps35
    go_wp2_with (first | (go_at_call 66; refine (xis_v _ a n c l (A1.out.calm HM.out.keep) (by omega) _ HI.out).mono ?_; rintro e w3 ⟨rfl, h3⟩; have HM : Hid _ := HM.out.calm h3; clear h3; have E1 : Hid _ := h_at HM.out 0 rfl HX.out Hr.out; obtain ⟨g0, g1, g2, g3, g4, g5⟩ := E1.out.cells) | (go_at_call 67; refine (Tp.rkind_any _ T HTz.out).mono ?_; rw [HK.out]; rintro e w4 ⟨rfl, h3⟩; have HM : Hid _ := HM.out.calm h3; clear h3; have E1 : Hid _ := h_at HM.out 0 rfl HX.out Hr.out; obtain ⟨g0, g1, g2, g3, g4, g5⟩ := E1.out.cells))
    go_ret
    exact ⟨rfl, HM.out.keep⟩
  have hG : ¬ (G < 1 ∨ 1073741824 < G) := by omega
  by_cases hx : ((n == 0) != (G == 1)) = true
  · have e : ck n l G T A Q Z = 12 := by rw [ck_eq, if_neg hn, if_neg hi, if_neg hG, if_pos hx]
    rw [e]
    clear e
    by_cases h0 : n = 0
    · have hz : ((n : Int) == 0) = true := by simpa using h0
      have hy : (G == 1) = false := by
        have : (n == 0) = true := by simpa using h0
        rw [this] at hx
        simpa using hx
      clear hx hG h0
      have A1 : Hid (At w a n l) := h
      have Hr : Hid (m.length = 32) := hm
      have HM : Hid (M (fun _ => False) w _ [blk w.heap.size (.cells (hd (.slice a n c) G T A Q Z m).toArray 28)]) := (M.start _ w).alloc (.cells (hd (.slice a n c) G T A Q Z m).toArray 28) rfl
      have E1 : Hid _ := h_at HM.out 0 rfl rfl hm
      obtain ⟨g0, g1, g2, g3, g4, g5⟩ := E1.out.cells
      generalize hX : (hd (.slice a n c) G T A Q Z m).toArray = X at HM E1 g0 g1 g2 g3 g4 g5 ⊢
      have HX : Hid _ := hX
      clear hX h hm
      go_enter Tryz.func35, Tryz.ntmps35
      go_wp2_with (first | (go_at_call 66; refine (xis_v _ a n c l (A1.out.calm HM.out.keep) (by omega) _ HI.out).mono ?_; rintro e w3 ⟨rfl, h3⟩; have HM : Hid _ := HM.out.calm h3; clear h3; have E1 : Hid _ := h_at HM.out 0 rfl HX.out Hr.out; obtain ⟨g0, g1, g2, g3, g4, g5⟩ := E1.out.cells) | (go_at_call 67; refine (Tp.rkind_any _ T HTz.out).mono ?_; rw [HK.out]; rintro e w4 ⟨rfl, h3⟩; have HM : Hid _ := HM.out.calm h3; clear h3; have E1 : Hid _ := h_at HM.out 0 rfl HX.out Hr.out; obtain ⟨g0, g1, g2, g3, g4, g5⟩ := E1.out.cells))
      go_ret
      exact ⟨rfl, HM.out.keep⟩
    · have hy : (G == 1) = true := by
        have : (n == 0) = false := by simpa using h0
        rw [this] at hx
        simpa using hx
      have hz : ((n : Int) == 0) = false := by simpa using h0
      clear hx hG h0
      have A1 : Hid (At w a n l) := h
      have Hr : Hid (m.length = 32) := hm
      have HM : Hid (M (fun _ => False) w _ [blk w.heap.size (.cells (hd (.slice a n c) G T A Q Z m).toArray 28)]) := (M.start _ w).alloc (.cells (hd (.slice a n c) G T A Q Z m).toArray 28) rfl
      have E1 : Hid _ := h_at HM.out 0 rfl rfl hm
      obtain ⟨g0, g1, g2, g3, g4, g5⟩ := E1.out.cells
      generalize hX : (hd (.slice a n c) G T A Q Z m).toArray = X at HM E1 g0 g1 g2 g3 g4 g5 ⊢
      have HX : Hid _ := hX
      clear hX h hm
      go_enter Tryz.func35, Tryz.ntmps35
      go_wp2_with (first | (go_at_call 66; refine (xis_v _ a n c l (A1.out.calm HM.out.keep) (by omega) _ HI.out).mono ?_; rintro e w3 ⟨rfl, h3⟩; have HM : Hid _ := HM.out.calm h3; clear h3; have E1 : Hid _ := h_at HM.out 0 rfl HX.out Hr.out; obtain ⟨g0, g1, g2, g3, g4, g5⟩ := E1.out.cells) | (go_at_call 67; refine (Tp.rkind_any _ T HTz.out).mono ?_; rw [HK.out]; rintro e w4 ⟨rfl, h3⟩; have HM : Hid _ := HM.out.calm h3; clear h3; have E1 : Hid _ := h_at HM.out 0 rfl HX.out Hr.out; obtain ⟨g0, g1, g2, g3, g4, g5⟩ := E1.out.cells))
      go_ret
      exact ⟨rfl, HM.out.keep⟩
  by_cases h0 : n = 0
  case' pos =>
    have hz : ((n : Int) == 0) = true := by simpa using h0
    have hy : (G == 1) = true := by
      have : (n == 0) = true := by simpa using h0
      rw [this] at hx
      simpa using hx
  case' neg =>
    have hz : ((n : Int) == 0) = false := by simpa using h0
    have hy : (G == 1) = false := by
      have : (n == 0) = false := by simpa using h0
      rw [this] at hx
      simpa using hx
  all_goals
    by_cases hk : tk T = 0
    case pos =>
      have e : ck n l G T A Q Z = 9 := by rw [ck_eq, if_neg hn, if_neg hi, if_neg hG, if_neg hx, if_pos hk]
      rw [e]
      have HK : Hid (tk T = 0) := hk
      clear e hx hG hk hi
      clear h0
      have A1 : Hid (At w a n l) := h
      have Hr : Hid (m.length = 32) := hm
      have HM : Hid (M (fun _ => False) w _ [blk w.heap.size (.cells (hd (.slice a n c) G T A Q Z m).toArray 28)]) := (M.start _ w).alloc (.cells (hd (.slice a n c) G T A Q Z m).toArray 28) rfl
      have E1 : Hid _ := h_at HM.out 0 rfl rfl hm
      obtain ⟨g0, g1, g2, g3, g4, g5⟩ := E1.out.cells
      generalize hX : (hd (.slice a n c) G T A Q Z m).toArray = X at HM E1 g0 g1 g2 g3 g4 g5 ⊢
      have HX : Hid _ := hX
      clear hX h hm
      go_enter Tryz.func35, Tryz.ntmps35
      go_wp2_with (first | (go_at_call 66; refine (xis_v _ a n c l (A1.out.calm HM.out.keep) (by omega) _ HI.out).mono ?_; rintro e w3 ⟨rfl, h3⟩; have HM : Hid _ := HM.out.calm h3; clear h3; have E1 : Hid _ := h_at HM.out 0 rfl HX.out Hr.out; obtain ⟨g0, g1, g2, g3, g4, g5⟩ := E1.out.cells) | (go_at_call 67; refine (Tp.rkind_any _ T HTz.out).mono ?_; rw [HK.out]; rintro e w4 ⟨rfl, h3⟩; have HM : Hid _ := HM.out.calm h3; clear h3; have E1 : Hid _ := h_at HM.out 0 rfl HX.out Hr.out; obtain ⟨g0, g1, g2, g3, g4, g5⟩ := E1.out.cells))
      go_ret
      exact ⟨rfl, HM.out.keep⟩
    obtain ⟨q, hq⟩ : ∃ q, tk T = q := ⟨_, rfl⟩
    have hk2 : (q == 0) = false := by rw [← hq]; simpa using hk
    have HK : Hid (tk T = q) := hq
    clear hq
    by_cases hA1 : A < 0
    case pos =>
      have e : ck n l G T A Q Z = 5 := by rw [ck_eq, if_neg hn, if_neg hi, if_neg hG, if_neg hx, if_neg hk, if_pos (.inl hA1)]
      rw [e]
      clear e hx hG hk hi
      clear h0
      have A1 : Hid (At w a n l) := h
      have Hr : Hid (m.length = 32) := hm
      have HM : Hid (M (fun _ => False) w _ [blk w.heap.size (.cells (hd (.slice a n c) G T A Q Z m).toArray 28)]) := (M.start _ w).alloc (.cells (hd (.slice a n c) G T A Q Z m).toArray 28) rfl
      have E1 : Hid _ := h_at HM.out 0 rfl rfl hm
      obtain ⟨g0, g1, g2, g3, g4, g5⟩ := E1.out.cells
      generalize hX : (hd (.slice a n c) G T A Q Z m).toArray = X at HM E1 g0 g1 g2 g3 g4 g5 ⊢
      have HX : Hid _ := hX
      clear hX h hm
      go_enter Tryz.func35, Tryz.ntmps35
      go_wp2_with (first | (go_at_call 66; refine (xis_v _ a n c l (A1.out.calm HM.out.keep) (by omega) _ HI.out).mono ?_; rintro e w3 ⟨rfl, h3⟩; have HM : Hid _ := HM.out.calm h3; clear h3; have E1 : Hid _ := h_at HM.out 0 rfl HX.out Hr.out; obtain ⟨g0, g1, g2, g3, g4, g5⟩ := E1.out.cells) | (go_at_call 67; refine (Tp.rkind_any _ T HTz.out).mono ?_; rw [HK.out]; rintro e w4 ⟨rfl, h3⟩; have HM : Hid _ := HM.out.calm h3; clear h3; have E1 : Hid _ := h_at HM.out 0 rfl HX.out Hr.out; obtain ⟨g0, g1, g2, g3, g4, g5⟩ := E1.out.cells))
      go_ret
      exact ⟨rfl, HM.out.keep⟩
    by_cases hA2 : 255 < A
    case pos =>
      have e : ck n l G T A Q Z = 5 := by rw [ck_eq, if_neg hn, if_neg hi, if_neg hG, if_neg hx, if_neg hk, if_pos (.inr hA2)]
      rw [e]
      clear e hx hG hk hi
      clear h0
      have A1 : Hid (At w a n l) := h
      have Hr : Hid (m.length = 32) := hm
      have HM : Hid (M (fun _ => False) w _ [blk w.heap.size (.cells (hd (.slice a n c) G T A Q Z m).toArray 28)]) := (M.start _ w).alloc (.cells (hd (.slice a n c) G T A Q Z m).toArray 28) rfl
      have E1 : Hid _ := h_at HM.out 0 rfl rfl hm
      obtain ⟨g0, g1, g2, g3, g4, g5⟩ := E1.out.cells
      generalize hX : (hd (.slice a n c) G T A Q Z m).toArray = X at HM E1 g0 g1 g2 g3 g4 g5 ⊢
      have HX : Hid _ := hX
      clear hX h hm
      go_enter Tryz.func35, Tryz.ntmps35
      go_wp2_with (first | (go_at_call 66; refine (xis_v _ a n c l (A1.out.calm HM.out.keep) (by omega) _ HI.out).mono ?_; rintro e w3 ⟨rfl, h3⟩; have HM : Hid _ := HM.out.calm h3; clear h3; have E1 : Hid _ := h_at HM.out 0 rfl HX.out Hr.out; obtain ⟨g0, g1, g2, g3, g4, g5⟩ := E1.out.cells) | (go_at_call 67; refine (Tp.rkind_any _ T HTz.out).mono ?_; rw [HK.out]; rintro e w4 ⟨rfl, h3⟩; have HM : Hid _ := HM.out.calm h3; clear h3; have E1 : Hid _ := h_at HM.out 0 rfl HX.out Hr.out; obtain ⟨g0, g1, g2, g3, g4, g5⟩ := E1.out.cells))
      go_ret
      exact ⟨rfl, HM.out.keep⟩
    have hA : ¬ (A < 0 ∨ 255 < A) := by omega
    by_cases hQ1 : Q < 1
    case pos =>
      have e : ck n l G T A Q Z = 5 := by rw [ck_eq, if_neg hn, if_neg hi, if_neg hG, if_neg hx, if_neg hk, if_neg hA, if_pos (.inl hQ1)]
      rw [e]
      clear e hx hG hk hi hA
      clear h0
      have A1 : Hid (At w a n l) := h
      have Hr : Hid (m.length = 32) := hm
      have HM : Hid (M (fun _ => False) w _ [blk w.heap.size (.cells (hd (.slice a n c) G T A Q Z m).toArray 28)]) := (M.start _ w).alloc (.cells (hd (.slice a n c) G T A Q Z m).toArray 28) rfl
      have E1 : Hid _ := h_at HM.out 0 rfl rfl hm
      obtain ⟨g0, g1, g2, g3, g4, g5⟩ := E1.out.cells
      generalize hX : (hd (.slice a n c) G T A Q Z m).toArray = X at HM E1 g0 g1 g2 g3 g4 g5 ⊢
      have HX : Hid _ := hX
      clear hX h hm
      go_enter Tryz.func35, Tryz.ntmps35
      go_wp2_with (first | (go_at_call 66; refine (xis_v _ a n c l (A1.out.calm HM.out.keep) (by omega) _ HI.out).mono ?_; rintro e w3 ⟨rfl, h3⟩; have HM : Hid _ := HM.out.calm h3; clear h3; have E1 : Hid _ := h_at HM.out 0 rfl HX.out Hr.out; obtain ⟨g0, g1, g2, g3, g4, g5⟩ := E1.out.cells) | (go_at_call 67; refine (Tp.rkind_any _ T HTz.out).mono ?_; rw [HK.out]; rintro e w4 ⟨rfl, h3⟩; have HM : Hid _ := HM.out.calm h3; clear h3; have E1 : Hid _ := h_at HM.out 0 rfl HX.out Hr.out; obtain ⟨g0, g1, g2, g3, g4, g5⟩ := E1.out.cells))
      go_ret
      exact ⟨rfl, HM.out.keep⟩
    by_cases hQ2 : 1073741824 < Q
    case pos =>
      have e : ck n l G T A Q Z = 5 := by rw [ck_eq, if_neg hn, if_neg hi, if_neg hG, if_neg hx, if_neg hk, if_neg hA, if_pos (.inr hQ2)]
      rw [e]
      clear e hx hG hk hi hA
      clear h0
      have A1 : Hid (At w a n l) := h
      have Hr : Hid (m.length = 32) := hm
      have HM : Hid (M (fun _ => False) w _ [blk w.heap.size (.cells (hd (.slice a n c) G T A Q Z m).toArray 28)]) := (M.start _ w).alloc (.cells (hd (.slice a n c) G T A Q Z m).toArray 28) rfl
      have E1 : Hid _ := h_at HM.out 0 rfl rfl hm
      obtain ⟨g0, g1, g2, g3, g4, g5⟩ := E1.out.cells
      generalize hX : (hd (.slice a n c) G T A Q Z m).toArray = X at HM E1 g0 g1 g2 g3 g4 g5 ⊢
      have HX : Hid _ := hX
      clear hX h hm
      go_enter Tryz.func35, Tryz.ntmps35
      go_wp2_with (first | (go_at_call 66; refine (xis_v _ a n c l (A1.out.calm HM.out.keep) (by omega) _ HI.out).mono ?_; rintro e w3 ⟨rfl, h3⟩; have HM : Hid _ := HM.out.calm h3; clear h3; have E1 : Hid _ := h_at HM.out 0 rfl HX.out Hr.out; obtain ⟨g0, g1, g2, g3, g4, g5⟩ := E1.out.cells) | (go_at_call 67; refine (Tp.rkind_any _ T HTz.out).mono ?_; rw [HK.out]; rintro e w4 ⟨rfl, h3⟩; have HM : Hid _ := HM.out.calm h3; clear h3; have E1 : Hid _ := h_at HM.out 0 rfl HX.out Hr.out; obtain ⟨g0, g1, g2, g3, g4, g5⟩ := E1.out.cells))
      go_ret
      exact ⟨rfl, HM.out.keep⟩
    have hQ : ¬ (Q < 1 ∨ 1073741824 < Q) := by omega
    by_cases hZ1 : Z < 1
    case pos =>
      have e : ck n l G T A Q Z = 5 := by rw [ck_eq, if_neg hn, if_neg hi, if_neg hG, if_neg hx, if_neg hk, if_neg hA, if_neg hQ, if_pos (.inl hZ1)]
      rw [e]
      clear e hx hG hk hi hA hQ
      clear h0
      have A1 : Hid (At w a n l) := h
      have Hr : Hid (m.length = 32) := hm
      have HM : Hid (M (fun _ => False) w _ [blk w.heap.size (.cells (hd (.slice a n c) G T A Q Z m).toArray 28)]) := (M.start _ w).alloc (.cells (hd (.slice a n c) G T A Q Z m).toArray 28) rfl
      have E1 : Hid _ := h_at HM.out 0 rfl rfl hm
      obtain ⟨g0, g1, g2, g3, g4, g5⟩ := E1.out.cells
      generalize hX : (hd (.slice a n c) G T A Q Z m).toArray = X at HM E1 g0 g1 g2 g3 g4 g5 ⊢
      have HX : Hid _ := hX
      clear hX h hm
      go_enter Tryz.func35, Tryz.ntmps35
      go_wp2_with (first | (go_at_call 66; refine (xis_v _ a n c l (A1.out.calm HM.out.keep) (by omega) _ HI.out).mono ?_; rintro e w3 ⟨rfl, h3⟩; have HM : Hid _ := HM.out.calm h3; clear h3; have E1 : Hid _ := h_at HM.out 0 rfl HX.out Hr.out; obtain ⟨g0, g1, g2, g3, g4, g5⟩ := E1.out.cells) | (go_at_call 67; refine (Tp.rkind_any _ T HTz.out).mono ?_; rw [HK.out]; rintro e w4 ⟨rfl, h3⟩; have HM : Hid _ := HM.out.calm h3; clear h3; have E1 : Hid _ := h_at HM.out 0 rfl HX.out Hr.out; obtain ⟨g0, g1, g2, g3, g4, g5⟩ := E1.out.cells))
      go_ret
      exact ⟨rfl, HM.out.keep⟩
    by_cases hZ2 : 512 < Z
    case pos =>
      have e : ck n l G T A Q Z = 5 := by rw [ck_eq, if_neg hn, if_neg hi, if_neg hG, if_neg hx, if_neg hk, if_neg hA, if_neg hQ, if_pos (.inr hZ2)]
      rw [e]
      clear e hx hG hk hi hA hQ
      clear h0
      have A1 : Hid (At w a n l) := h
      have Hr : Hid (m.length = 32) := hm
      have HM : Hid (M (fun _ => False) w _ [blk w.heap.size (.cells (hd (.slice a n c) G T A Q Z m).toArray 28)]) := (M.start _ w).alloc (.cells (hd (.slice a n c) G T A Q Z m).toArray 28) rfl
      have E1 : Hid _ := h_at HM.out 0 rfl rfl hm
      obtain ⟨g0, g1, g2, g3, g4, g5⟩ := E1.out.cells
      generalize hX : (hd (.slice a n c) G T A Q Z m).toArray = X at HM E1 g0 g1 g2 g3 g4 g5 ⊢
      have HX : Hid _ := hX
      clear hX h hm
      go_enter Tryz.func35, Tryz.ntmps35
      go_wp2_with (first | (go_at_call 66; refine (xis_v _ a n c l (A1.out.calm HM.out.keep) (by omega) _ HI.out).mono ?_; rintro e w3 ⟨rfl, h3⟩; have HM : Hid _ := HM.out.calm h3; clear h3; have E1 : Hid _ := h_at HM.out 0 rfl HX.out Hr.out; obtain ⟨g0, g1, g2, g3, g4, g5⟩ := E1.out.cells) | (go_at_call 67; refine (Tp.rkind_any _ T HTz.out).mono ?_; rw [HK.out]; rintro e w4 ⟨rfl, h3⟩; have HM : Hid _ := HM.out.calm h3; clear h3; have E1 : Hid _ := h_at HM.out 0 rfl HX.out Hr.out; obtain ⟨g0, g1, g2, g3, g4, g5⟩ := E1.out.cells))
      go_ret
      exact ⟨rfl, HM.out.keep⟩
    have hZ : ¬ (Z < 1 ∨ 512 < Z) := by omega
    have e : ck n l G T A Q Z = 0 := by rw [ck_eq, if_neg hn, if_neg hi, if_neg hG, if_neg hx, if_neg hk, if_neg hA, if_neg hQ, if_neg hZ]
    rw [e]
    clear e hx hG hk hi hA hQ hZ
    clear h0
    have A1 : Hid (At w a n l) := h
    have Hr : Hid (m.length = 32) := hm
    have HM : Hid (M (fun _ => False) w _ [blk w.heap.size (.cells (hd (.slice a n c) G T A Q Z m).toArray 28)]) := (M.start _ w).alloc (.cells (hd (.slice a n c) G T A Q Z m).toArray 28) rfl
    have E1 : Hid _ := h_at HM.out 0 rfl rfl hm
    obtain ⟨g0, g1, g2, g3, g4, g5⟩ := E1.out.cells
    generalize hX : (hd (.slice a n c) G T A Q Z m).toArray = X at HM E1 g0 g1 g2 g3 g4 g5 ⊢
    have HX : Hid _ := hX
    clear hX h hm
    go_enter Tryz.func35, Tryz.ntmps35
    go_wp2_with (first | (go_at_call 66; refine (xis_v _ a n c l (A1.out.calm HM.out.keep) (by omega) _ HI.out).mono ?_; rintro e w3 ⟨rfl, h3⟩; have HM : Hid _ := HM.out.calm h3; clear h3; have E1 : Hid _ := h_at HM.out 0 rfl HX.out Hr.out; obtain ⟨g0, g1, g2, g3, g4, g5⟩ := E1.out.cells) | (go_at_call 67; refine (Tp.rkind_any _ T HTz.out).mono ?_; rw [HK.out]; rintro e w4 ⟨rfl, h3⟩; have HM : Hid _ := HM.out.calm h3; clear h3; have E1 : Hid _ := h_at HM.out 0 rfl HX.out Hr.out; obtain ⟨g0, g1, g2, g3, g4, g5⟩ := E1.out.cells))
    go_ret
    exact ⟨rfl, HM.out.keep⟩
end Hd
end Go.Proofs.YtgllkfolckbdhaaGreatDoor


namespace Go.Proofs.YtgllkfolckbdhaaGreatDoor
open Go.RowKit
namespace Hd
open Oct Ids Gn
open OctRd (be_len)
open Mem
open Tp (tk)

set_option maxRecDepth 100000 in
theorem rn1 (w : World) (n : Int) (hn0 : 0 ≤ n) (hn : n < 256) (v : ByteArray) (hv : (⟨(be 1 n).toArray⟩ : ByteArray) = v) : Calls Tryz.prog 90 #[.int .i64 n, .int .i64 1] w fun e w' => e = .returned (.string v) ∧ Keep (fun _ => False) w w' := by
  have HV : Hid _ := hv
  clear hv
  go_enter Tryz.func90, Tryz.ntmps90
  go_wp2_with (first | (go_at_call 120; refine (Ref.num1 _ n hn0 hn).mono ?_; rw [HV.out]; rintro e w1 ⟨rfl, k1⟩; have HK : Hid _ := k1; clear k1))
  go_ret
  exact ⟨rfl, HK.out⟩
set_option maxRecDepth 100000 in
theorem rn2 (w : World) (n : Int) (hn0 : 0 ≤ n) (hn : n < 65536) (v : ByteArray) (hv : (⟨(be 2 n).toArray⟩ : ByteArray) = v) : Calls Tryz.prog 90 #[.int .i64 n, .int .i64 2] w fun e w' => e = .returned (.string v) ∧ Keep (fun _ => False) w w' := by
  have HV : Hid _ := hv
  clear hv
  go_enter Tryz.func90, Tryz.ntmps90
  go_wp2_with (first | (go_at_call 120; refine (Ref.num2 _ n hn0 hn).mono ?_; rw [HV.out]; rintro e w1 ⟨rfl, k1⟩; have HK : Hid _ := k1; clear k1))
  go_ret
  exact ⟨rfl, HK.out⟩
set_option maxRecDepth 100000 in
theorem rn4 (w : World) (n : Int) (hn0 : 0 ≤ n) (hn : n < 4294967296) (v : ByteArray) (hv : (⟨(be 4 n).toArray⟩ : ByteArray) = v) : Calls Tryz.prog 90 #[.int .i64 n, .int .i64 4] w fun e w' => e = .returned (.string v) ∧ Keep (fun _ => False) w w' := by
  have HV : Hid _ := hv
  clear hv
  go_enter Tryz.func90, Tryz.ntmps90
  go_wp2_with (first | (go_at_call 120; refine (Ref.num4 _ n hn0 hn).mono ?_; rw [HV.out]; rintro e w1 ⟨rfl, k1⟩; have HK : Hid _ := k1; clear k1))
  go_ret
  exact ⟨rfl, HK.out⟩
set_option maxRecDepth 100000 in
set_option maxHeartbeats 1000000 in
theorem rraw_any (w : World) (c : List UInt8) (hc : c.length = 32) (v : ByteArray) (hv : (⟨c.toArray⟩ : ByteArray) = v) : Calls Tryz.prog 91 #[idv c] w fun e w' => e = .returned (.string v) ∧ Keep (fun _ => False) w w' := by
  subst hv
  have Hlc : Hid (c.length = 32) := hc
  have M0 : Hid (M (fun _ => False) w _ [blk w.heap.size (.cells (c.map bv).toArray 24), byt (.slice none 0 0) []]) := ((M.start (fun _ => False) w).alloc (.cells (c.map bv).toArray 24) rfl).nilB
  clear hc
  go_enter Tryz.func91, Tryz.ntmps91
  go_wp2
  go_loopw [3, 4] (fun b i wr => ∃ (k : Nat) (v : Value), k ≤ 32 ∧ i = .int .i64 k ∧ b = v ∧ M (fun _ => False) w wr [blk w.heap.size (.cells (c.map bv).toArray 24), byt v (c.take k)]) (fun _ i _ => 32 - (intOf i).toNat)
  case atStart => exact ⟨0, _, Nat.zero_le _, rfl, rfl, M0.out⟩
  case round =>
    obtain ⟨k, v, hk, rfl, hv, hM⟩ := hrel
    replace hv := hv.symm
    subst hv
    have HM : Hid _ := hM
    clear hM
    by_cases hlt : k < 32
    · obtain ⟨d, hd⟩ : ∃ d, c[k]? = some d := ⟨_, List.getElem?_eq_getElem (by rw [Hlc.out]; exact hlt)⟩
      have g4 : wr.cell? ⟨w.heap.size, k, none⟩ = some (.int .u8 (d.toNat : Int)) := HM.out.cell 0 rfl k (by rw [List.getElem?_toArray]; simp [hd, bv])
      have Hd : Hid _ := hd
      clear hd
      go_wp2_with (first | (refine Byt.wl_app1 rfl rfl rfl ((HM.out.alloc _ rfl).get 1 rfl) rfl (heap_alloc_new _ _) (by simp; omega) ?_; intro v' w5 h1 k1 h3; have HM : Hid _ := (HM.out.alloc _ rfl).appB 1 rfl h1 k1 h3; clear h1 k1 h3; simp only [Act.put, List.setIfInBounds_toArray, List.set_cons_zero, List.set_cons_succ]))
      go_roundw
      case rel => exact ⟨k + 1, v', by omega, rfl, rfl, by rw [List.take_add_one, Hd.out]; exact HM.out.take 2⟩
      case measure => simp [intOf]; omega
    · obtain rfl : k = 32 := by omega
      have hcv := (HM.out.get 1 rfl).str
      have e : (⟨(c.take 32).toArray⟩ : ByteArray) = ⟨c.toArray⟩ := by rw [List.take_of_length_le (by rw [Hlc.out]; exact Nat.le_refl _)]
      rw [e] at hcv
      obtain ⟨C, hC⟩ : ∃ C : ByteArray, (⟨c.toArray⟩ : ByteArray) = C := ⟨_, rfl⟩
      rw [hC] at hcv
      have HC : Hid _ := hC
      clear hC e
      go_wp2
      go_ret
      exact ⟨by rw [HC.out]; rfl, HM.out.keep⟩
theorem bsz (l : List UInt8) (k : Nat) (h : l.length = k) (B : ByteArray) (hB : (⟨l.toArray⟩ : ByteArray) = B) : B.size = k := by rw [← hB, Byt.arr_size, h]
theorem bls (l : List UInt8) (B : ByteArray) (hB : (⟨l.toArray⟩ : ByteArray) = B) : B.data.toList = l := by rw [← hB]
theorem ob_of {S : ByteArray} {x : List UInt8} (h : S.data.toList = x) : S = ⟨x.toArray⟩ := by rw [← h]
set_option maxRecDepth 100000 in
set_option maxHeartbeats 1000000 in
theorem rput_bad (w : World) (a : Option Addr) (n c : Nat) (l : List (List UInt8)) (G : Int) (T : ByteArray) (A Q Z : Int) (m : List UInt8) (h : At w a n l) (hm : m.length = 32) (hT : T.size ≤ maxLen) (v : Int) (hv : ck n l G T A Q Z = v) (hv0 : v ≠ 0) :
    Calls Tryz.prog 62 #[.agg (hd (.slice a n c) G T A Q Z m).toArray] w fun e w' => e = .returned (.tuple #[.string ByteArray.empty, .int .i64 v]) ∧ Keep (fun _ => False) w w' := by
  have h' : (v != 0) = true := by simpa using hv0
  have Hv : Hid _ := hv
  have HTz : Hid (T.size ≤ maxLen) := hT
  clear hv hT hv0
  have A1 : Hid (At w a n l) := h
  have Hr : Hid (m.length = 32) := hm
  have HM : Hid (M (fun _ => False) w _ [blk w.heap.size (.cells (hd (.slice a n c) G T A Q Z m).toArray 28)]) := (M.start _ w).alloc (.cells (hd (.slice a n c) G T A Q Z m).toArray 28) rfl
  have E1 : Hid _ := h_at HM.out 0 rfl rfl hm
  obtain ⟨g0, g1, g2, g3, g4, g5⟩ := E1.out.cells
  generalize hX : (hd (.slice a n c) G T A Q Z m).toArray = X at HM E1 g0 g1 g2 g3 g4 g5 ⊢
  have HX : Hid _ := hX
  clear hX h hm
  go_enter Tryz.func62, Tryz.ntmps62
  go_wp2_with (first | (go_at_call 35; refine (rcheck_any _ a n c l G T A Q Z m (A1.out.calm HM.out.keep) Hr.out HTz.out v Hv.out).mono ?_; rintro e w1 ⟨rfl, k1⟩; have HM : Hid _ := HM.out.calm k1; clear k1) | ((with_reducible refine at_load 28 ?_); refine St.wl_load tyH (by rfl) rfl rfl (h_at HM.out 0 rfl HX.out Hr.out).all (hd_len _ _ _ _ _ _ _ Hr.out) ?_; simp only [Act.put, List.setIfInBounds_toArray, List.set_cons_zero, List.set_cons_succ]))
  go_ret2
  exact ⟨rfl, HM.out.keep⟩
set_option maxHeartbeats 4000000 in
set_option maxRecDepth 100000 in
theorem rput_ok (w : World) (a : Option Addr) (n c : Nat) (l : List (List UInt8)) (G : Int) (T : ByteArray) (A Q Z : Int) (m : List UInt8) (h : At w a n l) (hm : m.length = 32) (hv : ck n l G T A Q Z = 0) :
    Calls Tryz.prog 62 #[.agg (hd (.slice a n c) G T A Q Z m).toArray] w fun e w' => e = .returned (.tuple #[.string ⟨(hb n l G T A Q Z m).toArray⟩, .int .i64 0]) ∧ Keep (fun _ => False) w w' := by
  obtain ⟨hn4, _, hG, _, htk, hA, hQ, hZ⟩ := ck_ok hv
  have hT12 := tk_len htk
  have hfl : l.flatten.length = 32 * n := by rw [flat_len l h.size, h.len]
  obtain ⟨BI, hBI⟩ : ∃ B : ByteArray, (⟨(be 1 n ++ l.flatten).toArray⟩ : ByteArray) = B := ⟨_, rfl⟩
  have zBI : BI.size = 1 + 32 * n := bsz _ _ (by rw [List.length_append, be_len, hfl]) BI hBI
  obtain ⟨BG, hBG⟩ : ∃ B : ByteArray, (⟨(be 4 G).toArray⟩ : ByteArray) = B := ⟨_, rfl⟩
  have zBG : BG.size = 4 := bsz _ _ (be_len _ _) BG hBG
  obtain ⟨BL, hBL⟩ : ∃ B : ByteArray, (⟨(be 1 T.size).toArray⟩ : ByteArray) = B := ⟨_, rfl⟩
  have zBL : BL.size = 1 := bsz _ _ (be_len _ _) BL hBL
  obtain ⟨BA, hBA⟩ : ∃ B : ByteArray, (⟨(be 1 A).toArray⟩ : ByteArray) = B := ⟨_, rfl⟩
  have zBA : BA.size = 1 := bsz _ _ (be_len _ _) BA hBA
  obtain ⟨BQ, hBQ⟩ : ∃ B : ByteArray, (⟨(be 4 Q).toArray⟩ : ByteArray) = B := ⟨_, rfl⟩
  have zBQ : BQ.size = 4 := bsz _ _ (be_len _ _) BQ hBQ
  obtain ⟨BZ, hBZ⟩ : ∃ B : ByteArray, (⟨(be 2 Z).toArray⟩ : ByteArray) = B := ⟨_, rfl⟩
  have zBZ : BZ.size = 2 := bsz _ _ (be_len _ _) BZ hBZ
  obtain ⟨BM, hBM⟩ : ∃ B : ByteArray, (⟨m.toArray⟩ : ByteArray) = B := ⟨_, rfl⟩
  have zBM : BM.size = 32 := bsz _ _ hm BM hBM
  have Hres : Hid ((BI ++ BG ++ BL ++ T ++ BA ++ BQ ++ BZ ++ BM : ByteArray) = ⟨(hb n l G T A Q Z m).toArray⟩) := by
    refine ob_of ?_
    have e1 := bls _ BI hBI
    have e2 := bls _ BG hBG
    have e3 := bls _ BL hBL
    have e4 := bls _ BA hBA
    have e5 := bls _ BQ hBQ
    have e6 := bls _ BZ hBZ
    have e7 := bls _ BM hBM
    unfold hb
    simp only [ByteArray.data_append, Array.toList_append, e1, e2, e3, e4, e5, e6, e7, List.append_assoc]
  have s2 : ¬ 9223372036854775807 < BI.size + BG.size := by omega
  have s3 : ¬ 9223372036854775807 < BI.size + BG.size + BL.size := by omega
  have s4 : ¬ 9223372036854775807 < BI.size + BG.size + BL.size + T.size := by omega
  have s5 : ¬ 9223372036854775807 < BI.size + BG.size + BL.size + T.size + BA.size := by omega
  have s6 : ¬ 9223372036854775807 < BI.size + BG.size + BL.size + T.size + BA.size + BQ.size := by omega
  have s7 : ¬ 9223372036854775807 < BI.size + BG.size + BL.size + T.size + BA.size + BQ.size + BZ.size := by omega
  have s8 : ¬ 9223372036854775807 < BI.size + BG.size + BL.size + T.size + BA.size + BQ.size + BZ.size + BM.size := by omega
  clear zBI zBG zBL zBA zBQ zBZ zBM
  have HI : Hid _ := hBI
  have HG : Hid _ := hBG
  have HL : Hid _ := hBL
  have HA : Hid _ := hBA
  have HQ : Hid _ := hBQ
  have HZ : Hid _ := hBZ
  have HB : Hid _ := hBM
  have Hv : Hid _ := hv
  have HTz : Hid (T.size ≤ maxLen) := (by unfold maxLen; omega : T.size ≤ maxLen)
  clear hv htk hfl hBI hBG hBL hBA hBQ hBZ hBM
  have A1 : Hid (At w a n l) := h
  have Hr : Hid (m.length = 32) := hm
  have HM : Hid (M (fun _ => False) w _ [blk w.heap.size (.cells (hd (.slice a n c) G T A Q Z m).toArray 28)]) := (M.start _ w).alloc (.cells (hd (.slice a n c) G T A Q Z m).toArray 28) rfl
  have E1 : Hid _ := h_at HM.out 0 rfl rfl hm
  obtain ⟨g0, g1, g2, g3, g4, g5⟩ := E1.out.cells
  generalize hX : (hd (.slice a n c) G T A Q Z m).toArray = X at HM E1 g0 g1 g2 g3 g4 g5 ⊢
  have HX : Hid _ := hX
  clear hX h hm
  go_enter Tryz.func62, Tryz.ntmps62
  go_wp2_with (first | (go_at_call 35; refine (rcheck_any _ a n c l G T A Q Z m (A1.out.calm HM.out.keep) Hr.out HTz.out 0 Hv.out).mono ?_; rintro e w1 ⟨rfl, k1⟩; have HM : Hid _ := HM.out.calm k1; clear k1) | ((with_reducible refine at_load 28 ?_); refine St.wl_load tyH (by rfl) rfl rfl (h_at HM.out 0 rfl HX.out Hr.out).all (hd_len _ _ _ _ _ _ _ Hr.out) ?_; simp only [Act.put, List.setIfInBounds_toArray, List.set_cons_zero, List.set_cons_succ]))
  refine Txt.wp_region_text (fun w' => HAt w' w.heap.size (.slice a n c) G T A Q Z m) [0, 1, 4, 0, 2, 4, 0, 0, 2, 0, 4, 0, 0, 2, 0, 0, 2, 4, 0, 0, 2, 4, 0, 0, 2, 4, 0, 0, 2, 4, 0, 0, 0] (by kernel_rfl) (by kernel_rfl) (h_at HM.out.drew 0 rfl HX.out Hr.out) ?_
  have HM : Hid _ := HM.out.drew
  (repeat (first | (refine Txt.tl_pure (v := ?_) (by rfl) ?_ ?_; rotate_left; (focus (intro _; go_simp; try with_reducible rfl)); simp only [Act.put, List.setIfInBounds_toArray, List.set_cons_zero, List.set_cons_succ]) | (refine Txt.tl_load (v := .slice a n c) (ty := 26) (by rfl) (by rfl) (by rfl) (by kernel_rfl) (h_at HM.out 0 rfl HX.out Hr.out).cells.1 ?_; simp only [Act.put, List.setIfInBounds_toArray, List.set_cons_zero, List.set_cons_succ]) | (refine Txt.tl_load (v := .int .i64 G) (ty := 3) (by rfl) (by rfl) (by rfl) (by kernel_rfl) (h_at HM.out 0 rfl HX.out Hr.out).cells.2.1 ?_; simp only [Act.put, List.setIfInBounds_toArray, List.set_cons_zero, List.set_cons_succ]) | (refine Txt.tl_loadS (v := .int .i64 G) (ty := 3) (by rfl) (by rfl) (by rfl) (by kernel_rfl) (fun _ h => h.cells.2.1) ?_; simp only [Act.put, List.setIfInBounds_toArray, List.set_cons_zero, List.set_cons_succ]) | (refine Txt.tl_loadS (v := .string T) (ty := 9) (by rfl) (by rfl) (by rfl) (by kernel_rfl) (fun _ h => h.cells.2.2.1) ?_; simp only [Act.put, List.setIfInBounds_toArray, List.set_cons_zero, List.set_cons_succ]) | (refine Txt.tl_loadS (v := .int .i64 A) (ty := 3) (by rfl) (by rfl) (by rfl) (by kernel_rfl) (fun _ h => h.cells.2.2.2.1) ?_; simp only [Act.put, List.setIfInBounds_toArray, List.set_cons_zero, List.set_cons_succ]) | (refine Txt.tl_loadS (v := .int .i64 Q) (ty := 3) (by rfl) (by rfl) (by rfl) (by kernel_rfl) (fun _ h => h.cells.2.2.2.2.1) ?_; simp only [Act.put, List.setIfInBounds_toArray, List.set_cons_zero, List.set_cons_succ]) | (refine Txt.tl_loadS (v := .int .i64 Z) (ty := 3) (by rfl) (by rfl) (by rfl) (by kernel_rfl) (fun _ h => h.cells.2.2.2.2.2) ?_; simp only [Act.put, List.setIfInBounds_toArray, List.set_cons_zero, List.set_cons_succ])))
  refine Txt.tl_call Tryz.func89 (by kernel_rfl) (by kernel_rfl) (by rfl) (by rfl) (by rfl) (HI.out ▸ ids_any _ a n c l (A1.out.calm HM.out.keep) (by omega)) ?_
  rintro e w6 ⟨rfl, h1⟩
  have HM : Hid _ := HM.out.calm h1
  clear h1
  refine ⟨_, rfl, h_at HM.out 0 rfl HX.out Hr.out, ?_⟩
  simp only [Act.put, List.setIfInBounds_toArray, List.set_cons_zero, List.set_cons_succ]
  (repeat (first | (refine Txt.tl_pure (v := ?_) (by rfl) ?_ ?_; rotate_left; (focus (intro _; go_simp; try with_reducible rfl)); simp only [Act.put, List.setIfInBounds_toArray, List.set_cons_zero, List.set_cons_succ]) | (refine Txt.tl_load (v := .slice a n c) (ty := 26) (by rfl) (by rfl) (by rfl) (by kernel_rfl) (h_at HM.out 0 rfl HX.out Hr.out).cells.1 ?_; simp only [Act.put, List.setIfInBounds_toArray, List.set_cons_zero, List.set_cons_succ]) | (refine Txt.tl_load (v := .int .i64 G) (ty := 3) (by rfl) (by rfl) (by rfl) (by kernel_rfl) (h_at HM.out 0 rfl HX.out Hr.out).cells.2.1 ?_; simp only [Act.put, List.setIfInBounds_toArray, List.set_cons_zero, List.set_cons_succ]) | (refine Txt.tl_loadS (v := .int .i64 G) (ty := 3) (by rfl) (by rfl) (by rfl) (by kernel_rfl) (fun _ h => h.cells.2.1) ?_; simp only [Act.put, List.setIfInBounds_toArray, List.set_cons_zero, List.set_cons_succ]) | (refine Txt.tl_loadS (v := .string T) (ty := 9) (by rfl) (by rfl) (by rfl) (by kernel_rfl) (fun _ h => h.cells.2.2.1) ?_; simp only [Act.put, List.setIfInBounds_toArray, List.set_cons_zero, List.set_cons_succ]) | (refine Txt.tl_loadS (v := .int .i64 A) (ty := 3) (by rfl) (by rfl) (by rfl) (by kernel_rfl) (fun _ h => h.cells.2.2.2.1) ?_; simp only [Act.put, List.setIfInBounds_toArray, List.set_cons_zero, List.set_cons_succ]) | (refine Txt.tl_loadS (v := .int .i64 Q) (ty := 3) (by rfl) (by rfl) (by rfl) (by kernel_rfl) (fun _ h => h.cells.2.2.2.2.1) ?_; simp only [Act.put, List.setIfInBounds_toArray, List.set_cons_zero, List.set_cons_succ]) | (refine Txt.tl_loadS (v := .int .i64 Z) (ty := 3) (by rfl) (by rfl) (by rfl) (by kernel_rfl) (fun _ h => h.cells.2.2.2.2.2) ?_; simp only [Act.put, List.setIfInBounds_toArray, List.set_cons_zero, List.set_cons_succ])))
  refine Txt.tl_call Tryz.func90 (by kernel_rfl) (by kernel_rfl) (by rfl) (by rfl) (by rfl) (rn4 _ G (by omega) (by omega) BG HG.out) ?_
  rintro e w6 ⟨rfl, h1⟩
  have HM : Hid _ := HM.out.calm h1
  clear h1
  refine ⟨_, rfl, h_at HM.out 0 rfl HX.out Hr.out, ?_⟩
  simp only [Act.put, List.setIfInBounds_toArray, List.set_cons_zero, List.set_cons_succ]
  (repeat (first | (refine Txt.tl_pure (v := ?_) (by rfl) ?_ ?_; rotate_left; (focus (intro _; go_simp; try with_reducible rfl)); simp only [Act.put, List.setIfInBounds_toArray, List.set_cons_zero, List.set_cons_succ]) | (refine Txt.tl_load (v := .slice a n c) (ty := 26) (by rfl) (by rfl) (by rfl) (by kernel_rfl) (h_at HM.out 0 rfl HX.out Hr.out).cells.1 ?_; simp only [Act.put, List.setIfInBounds_toArray, List.set_cons_zero, List.set_cons_succ]) | (refine Txt.tl_load (v := .int .i64 G) (ty := 3) (by rfl) (by rfl) (by rfl) (by kernel_rfl) (h_at HM.out 0 rfl HX.out Hr.out).cells.2.1 ?_; simp only [Act.put, List.setIfInBounds_toArray, List.set_cons_zero, List.set_cons_succ]) | (refine Txt.tl_loadS (v := .int .i64 G) (ty := 3) (by rfl) (by rfl) (by rfl) (by kernel_rfl) (fun _ h => h.cells.2.1) ?_; simp only [Act.put, List.setIfInBounds_toArray, List.set_cons_zero, List.set_cons_succ]) | (refine Txt.tl_loadS (v := .string T) (ty := 9) (by rfl) (by rfl) (by rfl) (by kernel_rfl) (fun _ h => h.cells.2.2.1) ?_; simp only [Act.put, List.setIfInBounds_toArray, List.set_cons_zero, List.set_cons_succ]) | (refine Txt.tl_loadS (v := .int .i64 A) (ty := 3) (by rfl) (by rfl) (by rfl) (by kernel_rfl) (fun _ h => h.cells.2.2.2.1) ?_; simp only [Act.put, List.setIfInBounds_toArray, List.set_cons_zero, List.set_cons_succ]) | (refine Txt.tl_loadS (v := .int .i64 Q) (ty := 3) (by rfl) (by rfl) (by rfl) (by kernel_rfl) (fun _ h => h.cells.2.2.2.2.1) ?_; simp only [Act.put, List.setIfInBounds_toArray, List.set_cons_zero, List.set_cons_succ]) | (refine Txt.tl_loadS (v := .int .i64 Z) (ty := 3) (by rfl) (by rfl) (by rfl) (by kernel_rfl) (fun _ h => h.cells.2.2.2.2.2) ?_; simp only [Act.put, List.setIfInBounds_toArray, List.set_cons_zero, List.set_cons_succ])))
  refine Txt.tl_call Tryz.func90 (by kernel_rfl) (by kernel_rfl) (by rfl) (by rfl) (by rfl) (rn1 _ T.size (by omega) (by omega) BL HL.out) ?_
  rintro e w6 ⟨rfl, h1⟩
  have HM : Hid _ := HM.out.calm h1
  clear h1
  refine ⟨_, rfl, h_at HM.out 0 rfl HX.out Hr.out, ?_⟩
  simp only [Act.put, List.setIfInBounds_toArray, List.set_cons_zero, List.set_cons_succ]
  (repeat (first | (refine Txt.tl_pure (v := ?_) (by rfl) ?_ ?_; rotate_left; (focus (intro _; go_simp; try with_reducible rfl)); simp only [Act.put, List.setIfInBounds_toArray, List.set_cons_zero, List.set_cons_succ]) | (refine Txt.tl_load (v := .slice a n c) (ty := 26) (by rfl) (by rfl) (by rfl) (by kernel_rfl) (h_at HM.out 0 rfl HX.out Hr.out).cells.1 ?_; simp only [Act.put, List.setIfInBounds_toArray, List.set_cons_zero, List.set_cons_succ]) | (refine Txt.tl_load (v := .int .i64 G) (ty := 3) (by rfl) (by rfl) (by rfl) (by kernel_rfl) (h_at HM.out 0 rfl HX.out Hr.out).cells.2.1 ?_; simp only [Act.put, List.setIfInBounds_toArray, List.set_cons_zero, List.set_cons_succ]) | (refine Txt.tl_loadS (v := .int .i64 G) (ty := 3) (by rfl) (by rfl) (by rfl) (by kernel_rfl) (fun _ h => h.cells.2.1) ?_; simp only [Act.put, List.setIfInBounds_toArray, List.set_cons_zero, List.set_cons_succ]) | (refine Txt.tl_loadS (v := .string T) (ty := 9) (by rfl) (by rfl) (by rfl) (by kernel_rfl) (fun _ h => h.cells.2.2.1) ?_; simp only [Act.put, List.setIfInBounds_toArray, List.set_cons_zero, List.set_cons_succ]) | (refine Txt.tl_loadS (v := .int .i64 A) (ty := 3) (by rfl) (by rfl) (by rfl) (by kernel_rfl) (fun _ h => h.cells.2.2.2.1) ?_; simp only [Act.put, List.setIfInBounds_toArray, List.set_cons_zero, List.set_cons_succ]) | (refine Txt.tl_loadS (v := .int .i64 Q) (ty := 3) (by rfl) (by rfl) (by rfl) (by kernel_rfl) (fun _ h => h.cells.2.2.2.2.1) ?_; simp only [Act.put, List.setIfInBounds_toArray, List.set_cons_zero, List.set_cons_succ]) | (refine Txt.tl_loadS (v := .int .i64 Z) (ty := 3) (by rfl) (by rfl) (by rfl) (by kernel_rfl) (fun _ h => h.cells.2.2.2.2.2) ?_; simp only [Act.put, List.setIfInBounds_toArray, List.set_cons_zero, List.set_cons_succ])))
  refine Txt.tl_call Tryz.func90 (by kernel_rfl) (by kernel_rfl) (by rfl) (by rfl) (by rfl) (rn1 _ A (by omega) (by omega) BA HA.out) ?_
  rintro e w6 ⟨rfl, h1⟩
  have HM : Hid _ := HM.out.calm h1
  clear h1
  refine ⟨_, rfl, h_at HM.out 0 rfl HX.out Hr.out, ?_⟩
  simp only [Act.put, List.setIfInBounds_toArray, List.set_cons_zero, List.set_cons_succ]
  (repeat (first | (refine Txt.tl_pure (v := ?_) (by rfl) ?_ ?_; rotate_left; (focus (intro _; go_simp; try with_reducible rfl)); simp only [Act.put, List.setIfInBounds_toArray, List.set_cons_zero, List.set_cons_succ]) | (refine Txt.tl_load (v := .slice a n c) (ty := 26) (by rfl) (by rfl) (by rfl) (by kernel_rfl) (h_at HM.out 0 rfl HX.out Hr.out).cells.1 ?_; simp only [Act.put, List.setIfInBounds_toArray, List.set_cons_zero, List.set_cons_succ]) | (refine Txt.tl_load (v := .int .i64 G) (ty := 3) (by rfl) (by rfl) (by rfl) (by kernel_rfl) (h_at HM.out 0 rfl HX.out Hr.out).cells.2.1 ?_; simp only [Act.put, List.setIfInBounds_toArray, List.set_cons_zero, List.set_cons_succ]) | (refine Txt.tl_loadS (v := .int .i64 G) (ty := 3) (by rfl) (by rfl) (by rfl) (by kernel_rfl) (fun _ h => h.cells.2.1) ?_; simp only [Act.put, List.setIfInBounds_toArray, List.set_cons_zero, List.set_cons_succ]) | (refine Txt.tl_loadS (v := .string T) (ty := 9) (by rfl) (by rfl) (by rfl) (by kernel_rfl) (fun _ h => h.cells.2.2.1) ?_; simp only [Act.put, List.setIfInBounds_toArray, List.set_cons_zero, List.set_cons_succ]) | (refine Txt.tl_loadS (v := .int .i64 A) (ty := 3) (by rfl) (by rfl) (by rfl) (by kernel_rfl) (fun _ h => h.cells.2.2.2.1) ?_; simp only [Act.put, List.setIfInBounds_toArray, List.set_cons_zero, List.set_cons_succ]) | (refine Txt.tl_loadS (v := .int .i64 Q) (ty := 3) (by rfl) (by rfl) (by rfl) (by kernel_rfl) (fun _ h => h.cells.2.2.2.2.1) ?_; simp only [Act.put, List.setIfInBounds_toArray, List.set_cons_zero, List.set_cons_succ]) | (refine Txt.tl_loadS (v := .int .i64 Z) (ty := 3) (by rfl) (by rfl) (by rfl) (by kernel_rfl) (fun _ h => h.cells.2.2.2.2.2) ?_; simp only [Act.put, List.setIfInBounds_toArray, List.set_cons_zero, List.set_cons_succ])))
  refine Txt.tl_call Tryz.func90 (by kernel_rfl) (by kernel_rfl) (by rfl) (by rfl) (by rfl) (rn4 _ Q (by omega) (by omega) BQ HQ.out) ?_
  rintro e w6 ⟨rfl, h1⟩
  have HM : Hid _ := HM.out.calm h1
  clear h1
  refine ⟨_, rfl, h_at HM.out 0 rfl HX.out Hr.out, ?_⟩
  simp only [Act.put, List.setIfInBounds_toArray, List.set_cons_zero, List.set_cons_succ]
  (repeat (first | (refine Txt.tl_pure (v := ?_) (by rfl) ?_ ?_; rotate_left; (focus (intro _; go_simp; try with_reducible rfl)); simp only [Act.put, List.setIfInBounds_toArray, List.set_cons_zero, List.set_cons_succ]) | (refine Txt.tl_load (v := .slice a n c) (ty := 26) (by rfl) (by rfl) (by rfl) (by kernel_rfl) (h_at HM.out 0 rfl HX.out Hr.out).cells.1 ?_; simp only [Act.put, List.setIfInBounds_toArray, List.set_cons_zero, List.set_cons_succ]) | (refine Txt.tl_load (v := .int .i64 G) (ty := 3) (by rfl) (by rfl) (by rfl) (by kernel_rfl) (h_at HM.out 0 rfl HX.out Hr.out).cells.2.1 ?_; simp only [Act.put, List.setIfInBounds_toArray, List.set_cons_zero, List.set_cons_succ]) | (refine Txt.tl_loadS (v := .int .i64 G) (ty := 3) (by rfl) (by rfl) (by rfl) (by kernel_rfl) (fun _ h => h.cells.2.1) ?_; simp only [Act.put, List.setIfInBounds_toArray, List.set_cons_zero, List.set_cons_succ]) | (refine Txt.tl_loadS (v := .string T) (ty := 9) (by rfl) (by rfl) (by rfl) (by kernel_rfl) (fun _ h => h.cells.2.2.1) ?_; simp only [Act.put, List.setIfInBounds_toArray, List.set_cons_zero, List.set_cons_succ]) | (refine Txt.tl_loadS (v := .int .i64 A) (ty := 3) (by rfl) (by rfl) (by rfl) (by kernel_rfl) (fun _ h => h.cells.2.2.2.1) ?_; simp only [Act.put, List.setIfInBounds_toArray, List.set_cons_zero, List.set_cons_succ]) | (refine Txt.tl_loadS (v := .int .i64 Q) (ty := 3) (by rfl) (by rfl) (by rfl) (by kernel_rfl) (fun _ h => h.cells.2.2.2.2.1) ?_; simp only [Act.put, List.setIfInBounds_toArray, List.set_cons_zero, List.set_cons_succ]) | (refine Txt.tl_loadS (v := .int .i64 Z) (ty := 3) (by rfl) (by rfl) (by rfl) (by kernel_rfl) (fun _ h => h.cells.2.2.2.2.2) ?_; simp only [Act.put, List.setIfInBounds_toArray, List.set_cons_zero, List.set_cons_succ])))
  refine Txt.tl_call Tryz.func90 (by kernel_rfl) (by kernel_rfl) (by rfl) (by rfl) (by rfl) (rn2 _ Z (by omega) (by omega) BZ HZ.out) ?_
  rintro e w6 ⟨rfl, h1⟩
  have HM : Hid _ := HM.out.calm h1
  clear h1
  refine ⟨_, rfl, h_at HM.out 0 rfl HX.out Hr.out, ?_⟩
  simp only [Act.put, List.setIfInBounds_toArray, List.set_cons_zero, List.set_cons_succ]
  (repeat (first | (refine Txt.tl_pure (v := ?_) (by rfl) ?_ ?_; rotate_left; (focus (intro _; go_simp; try with_reducible rfl)); simp only [Act.put, List.setIfInBounds_toArray, List.set_cons_zero, List.set_cons_succ]) | (refine Txt.tl_load (v := .slice a n c) (ty := 26) (by rfl) (by rfl) (by rfl) (by kernel_rfl) (h_at HM.out 0 rfl HX.out Hr.out).cells.1 ?_; simp only [Act.put, List.setIfInBounds_toArray, List.set_cons_zero, List.set_cons_succ]) | (refine Txt.tl_load (v := .int .i64 G) (ty := 3) (by rfl) (by rfl) (by rfl) (by kernel_rfl) (h_at HM.out 0 rfl HX.out Hr.out).cells.2.1 ?_; simp only [Act.put, List.setIfInBounds_toArray, List.set_cons_zero, List.set_cons_succ]) | (refine Txt.tl_loadS (v := .int .i64 G) (ty := 3) (by rfl) (by rfl) (by rfl) (by kernel_rfl) (fun _ h => h.cells.2.1) ?_; simp only [Act.put, List.setIfInBounds_toArray, List.set_cons_zero, List.set_cons_succ]) | (refine Txt.tl_loadS (v := .string T) (ty := 9) (by rfl) (by rfl) (by rfl) (by kernel_rfl) (fun _ h => h.cells.2.2.1) ?_; simp only [Act.put, List.setIfInBounds_toArray, List.set_cons_zero, List.set_cons_succ]) | (refine Txt.tl_loadS (v := .int .i64 A) (ty := 3) (by rfl) (by rfl) (by rfl) (by kernel_rfl) (fun _ h => h.cells.2.2.2.1) ?_; simp only [Act.put, List.setIfInBounds_toArray, List.set_cons_zero, List.set_cons_succ]) | (refine Txt.tl_loadS (v := .int .i64 Q) (ty := 3) (by rfl) (by rfl) (by rfl) (by kernel_rfl) (fun _ h => h.cells.2.2.2.2.1) ?_; simp only [Act.put, List.setIfInBounds_toArray, List.set_cons_zero, List.set_cons_succ]) | (refine Txt.tl_loadS (v := .int .i64 Z) (ty := 3) (by rfl) (by rfl) (by rfl) (by kernel_rfl) (fun _ h => h.cells.2.2.2.2.2) ?_; simp only [Act.put, List.setIfInBounds_toArray, List.set_cons_zero, List.set_cons_succ])))
  refine Txt.tl_rowSN (n := 32) (ty := 24) (cs := m.map bv) (by rfl) (by rfl) (by rfl) (fun _ h => h.commit) (by kernel_rfl) (by rw [List.length_map]; exact Hr.out) ?_
  simp only [Act.put, List.setIfInBounds_toArray, List.set_cons_zero, List.set_cons_succ]
  (repeat (first | (refine Txt.tl_pure (v := ?_) (by rfl) ?_ ?_; rotate_left; (focus (intro _; go_simp; try with_reducible rfl)); simp only [Act.put, List.setIfInBounds_toArray, List.set_cons_zero, List.set_cons_succ]) | (refine Txt.tl_load (v := .slice a n c) (ty := 26) (by rfl) (by rfl) (by rfl) (by kernel_rfl) (h_at HM.out 0 rfl HX.out Hr.out).cells.1 ?_; simp only [Act.put, List.setIfInBounds_toArray, List.set_cons_zero, List.set_cons_succ]) | (refine Txt.tl_load (v := .int .i64 G) (ty := 3) (by rfl) (by rfl) (by rfl) (by kernel_rfl) (h_at HM.out 0 rfl HX.out Hr.out).cells.2.1 ?_; simp only [Act.put, List.setIfInBounds_toArray, List.set_cons_zero, List.set_cons_succ]) | (refine Txt.tl_loadS (v := .int .i64 G) (ty := 3) (by rfl) (by rfl) (by rfl) (by kernel_rfl) (fun _ h => h.cells.2.1) ?_; simp only [Act.put, List.setIfInBounds_toArray, List.set_cons_zero, List.set_cons_succ]) | (refine Txt.tl_loadS (v := .string T) (ty := 9) (by rfl) (by rfl) (by rfl) (by kernel_rfl) (fun _ h => h.cells.2.2.1) ?_; simp only [Act.put, List.setIfInBounds_toArray, List.set_cons_zero, List.set_cons_succ]) | (refine Txt.tl_loadS (v := .int .i64 A) (ty := 3) (by rfl) (by rfl) (by rfl) (by kernel_rfl) (fun _ h => h.cells.2.2.2.1) ?_; simp only [Act.put, List.setIfInBounds_toArray, List.set_cons_zero, List.set_cons_succ]) | (refine Txt.tl_loadS (v := .int .i64 Q) (ty := 3) (by rfl) (by rfl) (by rfl) (by kernel_rfl) (fun _ h => h.cells.2.2.2.2.1) ?_; simp only [Act.put, List.setIfInBounds_toArray, List.set_cons_zero, List.set_cons_succ]) | (refine Txt.tl_loadS (v := .int .i64 Z) (ty := 3) (by rfl) (by rfl) (by rfl) (by kernel_rfl) (fun _ h => h.cells.2.2.2.2.2) ?_; simp only [Act.put, List.setIfInBounds_toArray, List.set_cons_zero, List.set_cons_succ])))
  refine Txt.tl_call Tryz.func91 (by kernel_rfl) (by kernel_rfl) (by rfl) (by rfl) (by rfl) (rraw_any _ m Hr.out BM HB.out) ?_
  rintro e w6 ⟨rfl, h1⟩
  have HM : Hid _ := HM.out.calm h1
  clear h1
  refine ⟨_, rfl, h_at HM.out 0 rfl HX.out Hr.out, ?_⟩
  simp only [Act.put, List.setIfInBounds_toArray, List.set_cons_zero, List.set_cons_succ]
  (repeat (first | (refine Txt.tl_pure (v := ?_) (by rfl) ?_ ?_; rotate_left; (focus (intro _; go_simp; try with_reducible rfl)); simp only [Act.put, List.setIfInBounds_toArray, List.set_cons_zero, List.set_cons_succ]) | (refine Txt.tl_load (v := .slice a n c) (ty := 26) (by rfl) (by rfl) (by rfl) (by kernel_rfl) (h_at HM.out 0 rfl HX.out Hr.out).cells.1 ?_; simp only [Act.put, List.setIfInBounds_toArray, List.set_cons_zero, List.set_cons_succ]) | (refine Txt.tl_load (v := .int .i64 G) (ty := 3) (by rfl) (by rfl) (by rfl) (by kernel_rfl) (h_at HM.out 0 rfl HX.out Hr.out).cells.2.1 ?_; simp only [Act.put, List.setIfInBounds_toArray, List.set_cons_zero, List.set_cons_succ]) | (refine Txt.tl_loadS (v := .int .i64 G) (ty := 3) (by rfl) (by rfl) (by rfl) (by kernel_rfl) (fun _ h => h.cells.2.1) ?_; simp only [Act.put, List.setIfInBounds_toArray, List.set_cons_zero, List.set_cons_succ]) | (refine Txt.tl_loadS (v := .string T) (ty := 9) (by rfl) (by rfl) (by rfl) (by kernel_rfl) (fun _ h => h.cells.2.2.1) ?_; simp only [Act.put, List.setIfInBounds_toArray, List.set_cons_zero, List.set_cons_succ]) | (refine Txt.tl_loadS (v := .int .i64 A) (ty := 3) (by rfl) (by rfl) (by rfl) (by kernel_rfl) (fun _ h => h.cells.2.2.2.1) ?_; simp only [Act.put, List.setIfInBounds_toArray, List.set_cons_zero, List.set_cons_succ]) | (refine Txt.tl_loadS (v := .int .i64 Q) (ty := 3) (by rfl) (by rfl) (by rfl) (by kernel_rfl) (fun _ h => h.cells.2.2.2.2.1) ?_; simp only [Act.put, List.setIfInBounds_toArray, List.set_cons_zero, List.set_cons_succ]) | (refine Txt.tl_loadS (v := .int .i64 Z) (ty := 3) (by rfl) (by rfl) (by rfl) (by kernel_rfl) (fun _ h => h.cells.2.2.2.2.2) ?_; simp only [Act.put, List.setIfInBounds_toArray, List.set_cons_zero, List.set_cons_succ])))
  refine Txt.tl_nil ?_
  go_wp2
  go_ret2
  rw [← Hres.out]
  exact ⟨rfl, HM.out.keep⟩
theorem rput_any (w : World) (a : Option Addr) (n c : Nat) (l : List (List UInt8)) (G : Int) (T : ByteArray) (A Q Z : Int) (m : List UInt8) (h : At w a n l) (hm : m.length = 32) (hT : T.size ≤ maxLen) :
    Calls Tryz.prog 62 #[.agg (hd (.slice a n c) G T A Q Z m).toArray] w fun e w' => e = .returned (.tuple #[.string (pv n l G T A Q Z m), .int .i64 (ck n l G T A Q Z)]) ∧ Keep (fun _ => False) w w' := by
  by_cases hc : ck n l G T A Q Z = 0
  · rw [show pv n l G T A Q Z m = ⟨(hb n l G T A Q Z m).toArray⟩ from if_pos hc, hc]
    exact rput_ok w a n c l G T A Q Z m h hm hc
  · rw [show pv n l G T A Q Z m = ByteArray.empty from if_neg hc]
    exact rput_bad w a n c l G T A Q Z m h hm hT _ rfl hc
end Hd
end Go.Proofs.YtgllkfolckbdhaaGreatDoor


namespace Go.Proofs.YtgllkfolckbdhaaGreatDoor
open Go.RowKit
namespace Hd
open Oct Ids Gn OctW
open Mem (M blk)

set_option maxRecDepth 100000 in
set_option maxHeartbeats 1000000 in
theorem rident_ok (w : World) (a : Option Addr) (n c : Nat) (l : List (List UInt8)) (G : Int) (T : ByteArray) (A Q Z : Int) (m : List UInt8) (h : At w a n l) (hm : m.length = 32) (hv : ck n l G T A Q Z = 0) :
    Calls Tryz.prog 31 #[.agg (hd (.slice a n c) G T A Q Z m).toArray] w fun e w' => e = .returned (.tuple #[idv (Sha.sum (hb n l G T A Q Z m)), .int .i64 0]) ∧ Keep (fun _ => False) w w' := by
  obtain ⟨hn4, _, hG, _, htk, hA, hQ, hZ⟩ := ck_ok hv
  have hT12 := tk_len htk
  have hbl := hb_len n l G T A Q Z m h.len h.size hm
  have A1 : Hid (At w a n l) := h
  have Hm : Hid (m.length = 32) := hm
  have HP : Hid (∀ w, At w a n l → Calls Tryz.prog 62 #[.agg (hd (.slice a n c) G T A Q Z m).toArray] w fun e w' => e = .returned (.tuple #[.string ⟨(hb n l G T A Q Z m).toArray⟩, .int .i64 0]) ∧ Keep (fun _ => False) w w') := fun w h => rput_ok w a n c l G T A Q Z m h hm hv
  obtain ⟨t, ht⟩ : ∃ t : ByteArray, (⟨(hb n l G T A Q Z m).toArray⟩ : ByteArray) = t := ⟨_, rfl⟩
  have hts : t.size ≤ 999000 := by rw [← ht, Byt.arr_size]; omega
  have htd : t.data.toList = hb n l G T A Q Z m := by rw [← ht]
  rw [ht] at HP
  rw [← htd]
  have HT : Hid (t.size ≤ 999000) := hts
  have HL : Hid (((Sha.sum t.data.toList).map bv).toArray.size = 32) := by show _ = _; rw [List.size_toArray, List.length_map, Sha.sum_len]
  have HM : Hid (M (fun _ => False) w _ [blk w.heap.size (.cells (hd (.slice a n c) G T A Q Z m).toArray 28), blk (w.heap.size + 1) (.cells z32 24)]) := ((M.start _ w).alloc (.cells (hd (.slice a n c) G T A Q Z m).toArray 28) rfl).alloc (.cells z32 24) (by simp)
  generalize hX : (hd (.slice a n c) G T A Q Z m).toArray = X at HM ⊢
  have HX : Hid ((hd (.slice a n c) G T A Q Z m).toArray = X) := hX
  clear h hX hm htk hv ht hts htd hbl
  go_enter Tryz.func31, Tryz.ntmps31
  go_wp2_with (first | ((with_reducible refine at_load 28 ?_); refine St.wl_load tyH (by rfl) rfl rfl (h_at HM.out 0 rfl HX.out Hm.out).all (hd_len _ _ _ _ _ _ _ Hm.out) ?_; simp only [Act.put, List.setIfInBounds_toArray, List.set_cons_zero, List.set_cons_succ]) | (refine St.wl_alloc tyI rfl rfl (by (try simp only [World.size_alloc]); rfl) ?_; simp only [Act.put, List.setIfInBounds_toArray, List.set_cons_zero, List.set_cons_succ]) | (go_at_call 62; refine (HP.out _ (A1.out.calm HM.out.keep)).mono ?_; rintro e w1 ⟨rfl, k1⟩; have HM : Hid _ := HM.out.calm k1; clear k1) | (go_at_call 63; refine (Sha.xsum_any _ t HT.out).mono ?_; rintro e w1 ⟨rfl, k1⟩; have HM : Hid _ := HM.out.calm k1; clear k1) | (refine St.wl_store tyI rfl rfl rfl rfl rfl HL.out (one_bv _) (HM.out.get 1 rfl) (by simp) ?_; have HM : Hid _ := HM.out.setr 1 rfl ((Sha.sum t.data.toList).map bv).toArray))
  refine bodyPost_ret (St.res2 tyI rfl _ _ _ _ HL.out rfl (HM.out.get 1 rfl) _ rfl) rfl ?_
  exact ⟨rfl, HM.out.keep⟩
set_option maxRecDepth 100000 in
set_option maxHeartbeats 1000000 in
theorem rident_bad (w : World) (a : Option Addr) (n c : Nat) (l : List (List UInt8)) (G : Int) (T : ByteArray) (A Q Z : Int) (m : List UInt8) (h : At w a n l) (hm : m.length = 32) (hT : T.size ≤ maxLen) (v : Int) (hv : ck n l G T A Q Z = v) (hv0 : v ≠ 0) :
    Calls Tryz.prog 31 #[.agg (hd (.slice a n c) G T A Q Z m).toArray] w fun e w' => e = .returned (.tuple #[idv Z32, .int .i64 v]) ∧ Keep (fun _ => False) w w' := by
  have h' : (v != 0) = true := by simpa using hv0
  have A1 : Hid (At w a n l) := h
  have Hm : Hid (m.length = 32) := hm
  have HP : Hid (∀ w, At w a n l → Calls Tryz.prog 62 #[.agg (hd (.slice a n c) G T A Q Z m).toArray] w fun e w' => e = .returned (.tuple #[.string ByteArray.empty, .int .i64 v]) ∧ Keep (fun _ => False) w w') := fun w h => rput_bad w a n c l G T A Q Z m h hm hT v hv hv0
  have HM : Hid (M (fun _ => False) w _ [blk w.heap.size (.cells (hd (.slice a n c) G T A Q Z m).toArray 28), blk (w.heap.size + 1) (.cells z32 24)]) := ((M.start _ w).alloc (.cells (hd (.slice a n c) G T A Q Z m).toArray 28) rfl).alloc (.cells z32 24) (by simp)
  generalize hX : (hd (.slice a n c) G T A Q Z m).toArray = X at HM ⊢
  have HX : Hid ((hd (.slice a n c) G T A Q Z m).toArray = X) := hX
  clear h hX hm hv hT hv0
  go_enter Tryz.func31, Tryz.ntmps31
  go_wp2_with (first | ((with_reducible refine at_load 28 ?_); refine St.wl_load tyH (by rfl) rfl rfl (h_at HM.out 0 rfl HX.out Hm.out).all (hd_len _ _ _ _ _ _ _ Hm.out) ?_; simp only [Act.put, List.setIfInBounds_toArray, List.set_cons_zero, List.set_cons_succ]) | (refine St.wl_alloc tyI rfl rfl (by (try simp only [World.size_alloc]); rfl) ?_; simp only [Act.put, List.setIfInBounds_toArray, List.set_cons_zero, List.set_cons_succ]) | (refine St.wl_buildV (T := 24) (parts := #[]) rfl rfl (cs := z32) (by kernel_rfl) ?_; simp only [Act.put, List.setIfInBounds_toArray, List.set_cons_zero, List.set_cons_succ]) | (go_at_call 62; refine (HP.out _ (A1.out.calm HM.out.keep)).mono ?_; rintro e w1 ⟨rfl, k1⟩; have HM : Hid _ := HM.out.calm k1; clear k1) | (refine St.wl_store tyI rfl rfl rfl rfl rfl (cs := z32) rfl (one_bv (List.replicate 32 0)) (HM.out.get 1 rfl) rfl ?_; have HM : Hid _ := HM.out.setr 1 rfl z32))
  refine bodyPost_ret (St.res2 tyI rfl _ _ _ z32 rfl rfl (HM.out.get 1 rfl) _ rfl) rfl ?_
  exact ⟨rfl, HM.out.keep⟩
theorem ident_any (w : World) (hF : Sha.TabF w) (hK : Sha.TabK w) (a : Option Addr) (n c : Nat) (l : List (List UInt8)) (G : Int) (T : ByteArray) (A Q Z : Int) (m : List UInt8) (h : At w a n l) (hm : m.length = 32) (hn : n ≤ 1000000) (hT : T.size ≤ maxLen) :
    Calls Tryz.prog 39 #[.agg (hd (.slice a n c) G T A Q Z m).toArray] w fun e w' => e = .returned (.tuple #[idv (iv n l G T A Q Z m), .int .i64 (ck n l G T A Q Z)]) ∧ Keep (fun _ => False) w w' := by
  by_cases hc : ck n l G T A Q Z = 0
  · rw [show iv n l G T A Q Z m = Sha.sum (hb n l G T A Q Z m) from if_pos hc, hc]
    exact ident_ok w hF hK a n c l G T A Q Z m h hm hc
  · rw [show iv n l G T A Q Z m = Z32 from if_neg hc]
    exact ident_bad w a n c l G T A Q Z m h hm hn hT _ rfl hc
theorem rident_any (w : World) (a : Option Addr) (n c : Nat) (l : List (List UInt8)) (G : Int) (T : ByteArray) (A Q Z : Int) (m : List UInt8) (h : At w a n l) (hm : m.length = 32) (hT : T.size ≤ maxLen) :
    Calls Tryz.prog 31 #[.agg (hd (.slice a n c) G T A Q Z m).toArray] w fun e w' => e = .returned (.tuple #[idv (iv n l G T A Q Z m), .int .i64 (ck n l G T A Q Z)]) ∧ Keep (fun _ => False) w w' := by
  by_cases hc : ck n l G T A Q Z = 0
  · rw [show iv n l G T A Q Z m = Sha.sum (hb n l G T A Q Z m) from if_pos hc, hc]
    exact rident_ok w a n c l G T A Q Z m h hm hc
  · rw [show iv n l G T A Q Z m = Z32 from if_neg hc]
    exact rident_bad w a n c l G T A Q Z m h hm hT _ rfl hc
theorem iv_len (n : Nat) (l : List (List UInt8)) (G : Int) (T : ByteArray) (A Q Z : Int) (m : List UInt8) : (iv n l G T A Q Z m).length = 32 := by
  unfold iv
  split
  · exact Sha.sum_len _
  · rfl
end Hd
end Go.Proofs.YtgllkfolckbdhaaGreatDoor
