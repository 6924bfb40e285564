/-
  Rows of named headers: Reverse; stableCmpFunc, SortStableFunc at twenty at most.
-/
import Derived.Test.YtgllkfolckbdhaaGreatDoorNx2
set_option linter.unusedVariables false
set_option linter.unusedSimpArgs false
namespace Go.Proofs.YtgllkfolckbdhaaGreatDoor
open Go.RowKit
namespace Nx
open Oct Ids Gn Hd Ru
open Mem (M It blk ids rows)
theorem calm_of {w w' : World} {p : Prop} (h : p ∧ w' = w) : p ∧ Keep (fun _ => False) w w' := ⟨h.1, h.2 ▸ Keep.refl _ _⟩
/-- What turning round has done behind k steps. -/
def Rv {α : Type} (M Q : List α) (k : Nat) : Prop := Q.length = M.length ∧ ∀ t, t < M.length → Q[t]? = if t < k ∨ M.length ≤ t + k then M[M.length - 1 - t]? else M[t]?
theorem Rv.start {α : Type} (M : List α) : Rv M M 0 := ⟨rfl, fun t ht => by rw [if_neg (by omega)]⟩
theorem Rv.next {α : Type} {M Q : List α} {k m : Nat} {x y : α} (h : Rv M Q k) (hm : m = M.length - 1 - k) (hk : k < m) (hx : Q[m]? = some x) (hy : Q[k]? = some y) : Rv M ((Q.set k x).set m y) (k + 1) := by
  have hl := h.1
  refine ⟨by rw [List.length_set, List.length_set, hl], fun t ht => ?_⟩
  have e1 := h.2 m (by omega)
  have e2 := h.2 k (by omega)
  rw [if_neg (by omega)] at e1 e2
  by_cases t1 : t = m
  · subst t1
    rw [List.getElem?_set_self (by rw [List.length_set]; omega), if_pos (by omega), ← hy, e2, show M.length - 1 - t = k by omega]
  · rw [List.getElem?_set_ne (by omega)]
    by_cases t2 : t = k
    · subst t2
      rw [List.getElem?_set_self (by omega), if_pos (by omega), ← hx, e1, ← hm]
    · rw [List.getElem?_set_ne (by omega), h.2 t ht]
      by_cases hc : t < k ∨ M.length ≤ t + k
      · rw [if_pos hc, if_pos (by omega)]
      · rw [if_neg hc, if_neg (by omega)]
theorem Rv.done {α : Type} {M Q : List α} {k : Nat} (h : Rv M Q k) (hk : M.length ≤ 2 * k + 1) : Q = M.reverse := by
  refine List.ext_getElem? fun t => ?_
  by_cases ht : t < M.length
  · rw [h.2 t ht, List.getElem?_reverse ht]
    by_cases hc : t < k ∨ M.length ≤ t + k
    · rw [if_pos hc]
    · rw [if_neg hc, show M.length - 1 - t = t by omega]
  · rw [List.getElem?_eq_none (by have := h.1; omega), List.getElem?_eq_none (by rw [List.length_reverse]; omega)]
set_option maxRecDepth 100000 in
set_option maxHeartbeats 4000000 in
theorem rev_any (w : World) (g n c : Nat) (L : List Nm) (h : NOwn w (.slice (some ⟨g, 0, none⟩) n c) L) (hm : n ≤ 1000) :
    Calls Tryz.prog 56 #[.slice (some ⟨g, 0, none⟩) n c] w fun e w' => e = .returned (.tuple #[]) ∧ NOwn w' (.slice (some ⟨g, 0, none⟩) n c) L.reverse ∧ Keep (fun k => k = g) w w' := by
  have HN : Hid (n = L.length) := h.block.1
  have H0 : Hid (NOwn w (.slice (some ⟨g, 0, none⟩) n c) L) := h
  clear h
  go_enter Tryz.func56, Tryz.ntmps56
  go_wp2
  go_loopw [2, 3] (fun i j wr => ∃ (k : Nat) (Q : List Nm), 2 * k ≤ n + 1 ∧ i = .int .i64 k ∧ j = .int .i64 ((n : Int) - 1 - k) ∧ NOwn wr (.slice (some ⟨g, 0, none⟩) n c) Q ∧ Keep (fun b => b = g) w wr ∧ Rv L Q k) (fun i _ _ => n + 1 - (intOf i).toNat)
  case atStart => exact ⟨0, L, by omega, rfl, by go_num, H0.out, Keep.refl _ _, Rv.start L⟩
  case round =>
    obtain ⟨k, Q, hk, rfl, rfl, ho, hkw, hs⟩ := hrel
    have HO : Hid (NOwn wr (.slice (some ⟨g, 0, none⟩) n c) Q) := ho
    have HK : Hid (Keep (fun b => b = g) w wr) := hkw
    have HS : Hid (Rv L Q k) := hs
    have HL : Hid (n = Q.length) := ho.block.1
    clear ho hkw hs
    by_cases hlt : (k : Int) < (n : Int) - 1 - k
    · obtain ⟨m, hmm⟩ : ∃ m, n - 1 - k = m := ⟨_, rfl⟩
      have hmz : (n : Int) - 1 - k = (m : Int) := by omega
      have Hm : Hid (m = L.length - 1 - k) := by show _ = _; rw [← HN.out]; exact hmm.symm
      rw [hmz] at hlt ⊢
      have hkn : k < n := by omega
      have hmn : m < n := by omega
      obtain ⟨x, hx⟩ : ∃ x, Q[m]? = some x := ⟨_, List.getElem?_eq_getElem (by rw [← HL.out]; omega)⟩
      obtain ⟨y, hy⟩ : ∃ y, Q[k]? = some y := ⟨_, List.getElem?_eq_getElem (by rw [← HL.out]; omega)⟩
      have Hx : Hid _ := hx
      have Hy : Hid _ := hy
      have Hmz : Hid ((n : Int) - 1 - k = (m : Int)) := hmz
      clear hx hy hmm hmz
      go_wp2
      have O3 : Hid (NOwn wr.drew (.slice (some ⟨g, 0, none⟩) n c) Q) := HO.out.keep ((Keep.refl (fun _ => False) wr).drew) (fun _ _ h => h)
      have Rx : Hid (wr.drew.rangeAt g (m * 70) (ne x)) := nrange O3.out Hx.out
      have Ry : Hid (wr.drew.rangeAt g (k * 70) (ne y)) := nrange O3.out Hy.out
      refine Txt.wp_region_text (fun _ => True) [0, 0, 0, 0, 0, 0, 0, 1, 0, 0, 0, 1, 0, 4, 0, 4] (by kernel_rfl) (by kernel_rfl) trivial ?_
      (repeat (first | (refine Txt.tl_pure (v := ?_) (by rfl) ?_ ?_; rotate_left; (focus (intro _; go_simp; try with_reducible rfl)); simp only [Act.put, List.setIfInBounds_toArray, List.set_cons_zero, List.set_cons_succ]) | (refine Txt.tl_skip (by rfl) trivial ?_; simp only [Act.put, List.setIfInBounds_toArray, List.set_cons_zero, List.set_cons_succ]) | (refine Txt.tl_rowN (n := 70) (ty := 60) (by rfl) (by rfl) (by rfl) Rx.out (by kernel_rfl) (encNe.len x) ?_; simp only [Act.put, List.setIfInBounds_toArray, List.set_cons_zero, List.set_cons_succ]) | (refine Txt.tl_rowN (n := 70) (ty := 60) (by rfl) (by rfl) (by rfl) Ry.out (by kernel_rfl) (encNe.len y) ?_; simp only [Act.put, List.setIfInBounds_toArray, List.set_cons_zero, List.set_cons_succ])))
      refine Txt.tl_loud (by rfl) ?_
      refine St.wp_set encNe tyN rfl rfl O3.out rfl hkn x rfl rfl ?_
      intro w3 o3 k3
      refine ⟨trivial, ?_⟩
      have O4 : Hid _ := o3
      have K4 : Hid _ := HK.out.drew.trans k3
      clear o3 k3
      (repeat (first | (refine Txt.tl_pure (v := ?_) (by rfl) ?_ ?_; rotate_left; (focus (intro _; go_simp; try with_reducible rfl)); simp only [Act.put, List.setIfInBounds_toArray, List.set_cons_zero, List.set_cons_succ]) | (refine Txt.tl_skip (by rfl) trivial ?_; simp only [Act.put, List.setIfInBounds_toArray, List.set_cons_zero, List.set_cons_succ]) | (refine Txt.tl_rowN (n := 70) (ty := 60) (by rfl) (by rfl) (by rfl) Rx.out (by kernel_rfl) (encNe.len x) ?_; simp only [Act.put, List.setIfInBounds_toArray, List.set_cons_zero, List.set_cons_succ]) | (refine Txt.tl_rowN (n := 70) (ty := 60) (by rfl) (by rfl) (by rfl) Ry.out (by kernel_rfl) (encNe.len y) ?_; simp only [Act.put, List.setIfInBounds_toArray, List.set_cons_zero, List.set_cons_succ])))
      refine Txt.tl_loud (by rfl) ?_
      refine St.wp_set encNe tyN rfl rfl O4.out rfl hmn y rfl rfl ?_
      intro w4 o4 k4
      refine ⟨trivial, ?_⟩
      have O5 : Hid _ := o4
      have K5 : Hid _ := K4.out.trans k4
      clear o4 k4
      refine Txt.tl_nil ?_
      go_wp2
      go_roundw
      case rel => exact ⟨k + 1, _, by have := Hmz.out; omega, by go_num, by have := Hmz.out; go_num, O5.out, K5.out, HS.out.next Hm.out (by omega) Hx.out Hy.out⟩
      case measure => simp [intOf]; omega
    · have HE : Hid (Q = L.reverse) := HS.out.done (by rw [← HN.out]; omega)
      go_wp2
      go_end0
      exact ⟨rfl, by rw [← HE.out]; exact HO.out, HK.out⟩
set_option maxRecDepth 100000 in
set_option maxHeartbeats 2000000 in
theorem ins_none (w : World) (v fv : Value) (a b : Nat) (ha : a ≤ 1000) (hb : b ≤ a + 1) :
    Calls Tryz.prog 116 #[v, .int .i64 a, .int .i64 b, fv] w fun e w' => e = .returned (.tuple #[]) ∧ w' = w := by
  have h1 : ¬ (a : Int) + 1 < (b : Int) := by omega
  have h2 : ¬ a + 1 < b := by omega
  go_enter Tryz.func116, Tryz.ntmps116
  go_wp2
  go_rounds 1
  go_end0
  exact ⟨rfl, rfl⟩
set_option maxRecDepth 100000 in
set_option maxHeartbeats 2000000 in
theorem stable_any (w : World) (g n c : Nat) (L : List Nm) (h : NOwn w (.slice (some ⟨g, 0, none⟩) n c) L) (hm : n ≤ 20) (f : Nat) (bs ls : Array Value)
    (eg : ∀ args w, (callFunc f args).run Tryz.prog w = .ok (.enter f args) w) (hp : Orders (fun k => k = g) w f bs ls) :
    Calls Tryz.prog 77 #[.slice (some ⟨g, 0, none⟩) n c, .int .i64 n, .func (.func f) bs ls] w fun e w' => e = .returned (.tuple #[]) ∧ ∃ M, NOwn w' (.slice (some ⟨g, 0, none⟩) n c) M ∧ Keep (fun k => k = g) w w' ∧ Sunk L M n := by
  have HI : Hid (Calls Tryz.prog 116 #[.slice (some ⟨g, 0, none⟩) n c, .int .i64 0, .int .i64 n, .func (.func f) bs ls] w fun e w' => e = .returned (.tuple #[]) ∧ ∃ M, NOwn w' (.slice (some ⟨g, 0, none⟩) n c) M ∧ Keep (fun k => k = g) w w' ∧ Sunk L M n) := ins_any w g n c L h (by omega) f bs ls eg hp
  clear h hp
  by_cases h20 : n = 20
  · subst h20
    go_enter Tryz.func77, Tryz.ntmps77
    go_wp2
    refine wp_loop_rounds 2 ?_
    rw [rounds_succ]
    go_wp2_with (first | ((with_reducible refine at_callW #[.slice (some ⟨g, 0, none⟩) 20 c, .int .i64 0, .int .i64 20, .func (.func f) bs ls] ?_); refine HI.out.mono ?_; rintro e w1 ⟨rfl, N, o1, k1, s1⟩; have HO : Hid (NOwn w1 (.slice (some ⟨g, 0, none⟩) 20 c) N) := o1; have HK : Hid (Keep (fun k => k = g) w w1) := k1; have HS : Hid (Sunk L N 20) := s1; clear o1 k1 s1) | ((with_reducible refine at_callW #[.slice (some ⟨g, 0, none⟩) 20 c, .int .i64 20, .int .i64 20, .func (.func f) bs ls] ?_); refine (ins_none _ _ _ 20 20 (by decide) (by decide)).mono ?_; rintro e w2 hq; obtain ⟨rfl, k2⟩ := calm_of hq; have HO : Hid (NOwn w2 (.slice (some ⟨g, 0, none⟩) 20 c) N) := HO.out.keep k2 (fun _ _ h => h); have HK : Hid (Keep (fun k => k = g) w w2) := HK.out.trans' k2 (fun _ _ h => h) (fun _ _ h => h.elim); clear k2 hq))
    rw [rounds_succ]
    go_wp2_with (first | ((with_reducible refine at_callW #[.slice (some ⟨g, 0, none⟩) 20 c, .int .i64 0, .int .i64 20, .func (.func f) bs ls] ?_); refine HI.out.mono ?_; rintro e w1 ⟨rfl, N, o1, k1, s1⟩; have HO : Hid (NOwn w1 (.slice (some ⟨g, 0, none⟩) 20 c) N) := o1; have HK : Hid (Keep (fun k => k = g) w w1) := k1; have HS : Hid (Sunk L N 20) := s1; clear o1 k1 s1) | ((with_reducible refine at_callW #[.slice (some ⟨g, 0, none⟩) 20 c, .int .i64 20, .int .i64 20, .func (.func f) bs ls] ?_); refine (ins_none _ _ _ 20 20 (by decide) (by decide)).mono ?_; rintro e w2 hq; obtain ⟨rfl, k2⟩ := calm_of hq; have HO : Hid (NOwn w2 (.slice (some ⟨g, 0, none⟩) 20 c) N) := HO.out.keep k2 (fun _ _ h => h); have HK : Hid (Keep (fun k => k = g) w w2) := HK.out.trans' k2 (fun _ _ h => h) (fun _ _ h => h.elim); clear k2 hq))
    go_rounds 1
    go_end0
    exact ⟨rfl, N, HO.out, HK.out, HS.out⟩
  · have h1 : ¬ (20 : Int) ≤ (n : Int) := by omega
    have h2 : ¬ 20 ≤ n := by omega
    have h3 : ¬ 20 < n := by omega
    have h4 : ¬ (20 : Int) < (n : Int) := by omega
    go_enter Tryz.func77, Tryz.ntmps77
    go_wp2
    refine wp_loop_rounds 1 ?_
    rw [rounds_succ]
    go_wp2_with (first | (go_at_call 116; refine HI.out.mono ?_; rintro e w1 ⟨rfl, N, o1, k1, s1⟩; have HO : Hid (NOwn w1 (.slice (some ⟨g, 0, none⟩) n c) N) := o1; have HK : Hid (Keep (fun k => k = g) w w1) := k1; have HS : Hid (Sunk L N n) := s1; clear o1 k1 s1))
    go_rounds 1
    go_end0
    exact ⟨rfl, N, HO.out, HK.out, HS.out⟩
set_option maxRecDepth 100000 in
theorem sort_any (w : World) (g n c : Nat) (L : List Nm) (h : NOwn w (.slice (some ⟨g, 0, none⟩) n c) L) (hm : n ≤ 20) (f : Nat) (bs ls : Array Value)
    (eg : ∀ args w, (callFunc f args).run Tryz.prog w = .ok (.enter f args) w) (hp : Orders (fun k => k = g) w f bs ls) :
    Calls Tryz.prog 54 #[.slice (some ⟨g, 0, none⟩) n c, .func (.func f) bs ls] w fun e w' => e = .returned (.tuple #[]) ∧ ∃ M, NOwn w' (.slice (some ⟨g, 0, none⟩) n c) M ∧ Keep (fun k => k = g) w w' ∧ Sunk L M n := by
  have HI := stable_any w g n c L h hm f bs ls eg hp
  clear h hp
  go_enter Tryz.func54, Tryz.ntmps54
  go_wp2_with (first | (go_at_call 77; refine HI.mono ?_; rintro e w1 ⟨rfl, hq⟩; have HQ : Hid _ := hq; clear hq))
  go_end0
  exact ⟨rfl, HQ.out⟩
set_option maxRecDepth 100000 in
/-- Rows that hold nothing. -/
theorem sort_none (w : World) (a : Option Addr) (c : Nat) (fv : Value) : Calls Tryz.prog 54 #[.slice a 0 c, fv] w fun e w' => e = .returned (.tuple #[]) ∧ Keep (fun _ => False) w w' := by
  have HI : Calls Tryz.prog 77 #[.slice a 0 c, .int .i64 0, fv] w fun e w' => e = .returned (.tuple #[]) ∧ Keep (fun _ => False) w w' := by
    go_enter Tryz.func77, Tryz.ntmps77
    go_wp2
    refine wp_loop_rounds 1 ?_
    rw [rounds_succ]
    go_wp2_with (first | (go_at_call 116; refine (ins_none _ _ _ 0 0 (by decide) (by decide)).mono ?_; rintro e w2 hq; obtain ⟨rfl, k2⟩ := calm_of hq; have HK : Hid (Keep (fun _ => False) w w2) := k2; clear k2 hq))
    go_rounds 1
    go_end0
    exact ⟨rfl, HK.out⟩
  go_enter Tryz.func54, Tryz.ntmps54
  go_wp2_with (first | (go_at_call 77; refine HI.mono ?_; rintro e w1 ⟨rfl, hq⟩; have HQ : Hid _ := hq; clear hq))
  go_end0
  exact ⟨rfl, HQ.out⟩
set_option maxRecDepth 100000 in
theorem rev_none (w : World) (a : Option Addr) (c : Nat) : Calls Tryz.prog 56 #[.slice a 0 c] w fun e w' => e = .returned (.tuple #[]) ∧ Keep (fun _ => False) w w' := by
  go_enter Tryz.func56, Tryz.ntmps56
  go_wp2
  go_rounds 1
  go_end0
  exact ⟨rfl, Keep.refl _ _⟩
end Nx
end Go.Proofs.YtgllkfolckbdhaaGreatDoor
