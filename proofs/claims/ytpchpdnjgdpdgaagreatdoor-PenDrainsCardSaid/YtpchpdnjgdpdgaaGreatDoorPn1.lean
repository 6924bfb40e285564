/-
  Waiters: how they lie; rows of them: IndexFunc, ContainsFunc, Grow, Concat.
-/
import Derived.Test.YtpchpdnjgdpdgaaGreatDoorHdF
import Derived.Test.YtpchpdnjgdpdgaaGreatDoorRows3
import Derived.Test.YtpchpdnjgdpdgaaGreatDoorGIf
set_option linter.unusedVariables false
set_option linter.unusedSimpArgs false
namespace Go.Proofs.YtpchpdnjgdpdgaaGreatDoor
open Go.RowKit
namespace Pn
open Oct Ids Gn Hd
open Mem (M blk)

/-- A header that waits. -/
structure Wt where
  a : Option Addr
  n : Nat
  c : Nat
  l : List (List UInt8)
  G : Int
  T : ByteArray
  A : Int
  Q : Int
  Z : Int
  m : List UInt8
  hm : m.length = 32
  id : List UInt8
  hid : id.length = 32
  fr : Int
def hv (x : Wt) : List Value := hd (.slice x.a x.n x.c) x.G x.T x.A x.Q x.Z x.m
def we (x : Wt) : List Value := hv x ++ (x.id.map bv ++ [.int .i64 x.fr])
theorem hv_len (x : Wt) : (hv x).length = 38 := hd_len _ _ _ _ _ _ _ x.hm
theorem W_enc : St.Enc 71 we := by
  refine ⟨fun x => ?_, fun x u hu => ?_⟩
  · unfold we
    rw [List.length_append, hv_len, List.length_append, List.length_map, x.hid]
    rfl
  · unfold we hv hd at hu
    simp only [List.mem_append, List.mem_cons, List.mem_map, List.not_mem_nil, or_false] at hu
    rcases hu with (((rfl | rfl | rfl | rfl | rfl | rfl) | ⟨y, _, rfl⟩) | ⟨y, _, rfl⟩ | rfl) <;> rfl
abbrev wz : Array Value := ((hd (.slice none 0 0) 0 ByteArray.empty 0 0 0 Z32) ++ (Z32.map bv ++ [Value.int .i64 0])).toArray
theorem tyW : St.Ty 71 71 wz := ⟨⟨_, Tryz.underlying71, rfl⟩, by kernel_rfl, by kernel_rfl⟩
theorem slW : SlT Tryz.prog 66 71 (.agg wz) 71 144 := SlT.mk' Tryz.underlying66 (by kernel_rfl) rfl (by omega)
abbrev W_enc' := W_enc
/-- What is asked of a function value: it tells of each element what 'p' says, in whatever world stands behind this one. -/
def W_Tells (S : Nat → Prop) (w : World) (g : Nat) (bs ls : Array Value) (els : List Wt) (p : Wt → Bool) : Prop :=
  ∀ (w1 : World) (x : Wt), x ∈ els → Keep S w w1 → Calls Tryz.prog g (bs.push (.agg (we x).toArray) ++ ls) w1 fun e w2 => e = .returned (.bool (p x)) ∧ Keep (fun _ => False) w1 w2
set_option maxRecDepth 100000 in
set_option maxHeartbeats 1000000 in
theorem W_index (w : World) (a : Option Addr) (n c : Nat) (els : List Wt) (h : St.At 71 we w a n els) (hm : n ≤ 1000000) (g : Nat) (bs ls : Array Value) (p : Wt → Bool)
    (eg : ∀ args w, (callFunc g args).run Tryz.prog w = .ok (.enter g args) w) (hp : W_Tells (fun _ => False) w g bs ls els p) :
    Calls Tryz.prog 70 #[.slice a n c, .func (.func g) bs ls] w fun e w' => e = .returned (.int .i64 (St.idx p els)) ∧ Keep (fun _ => False) w w' := by
  have H : Hid _ := h
  have HP : Hid (W_Tells (fun _ => False) w g bs ls els p) := hp
  have HN : Hid (els.length = n) := h.len
  clear h hp
  go_enter Tryz.func70, Tryz.ntmps70
  go_wp2
  go_loopw [8] (fun i wr => ∃ k : Nat, k ≤ n ∧ i = .int .i64 k ∧ Keep (fun _ => False) w wr ∧ (∀ (j : Nat) (y : Wt), j < k → els[j]? = some y → p y = false)) (fun i _ => n - (intOf i).toNat)
  case atStart => exact ⟨0, Nat.zero_le _, rfl, Keep.refl _ _, fun j y hj => absurd hj (Nat.not_lt_zero _)⟩
  case round =>
    obtain ⟨k, hk, rfl, hkp, hb⟩ := hrel
    have HK : Hid _ := hkp
    have HB : Hid _ := hb
    clear hkp hb
    by_cases hlt : k < n
    · obtain ⟨x, hx⟩ : ∃ x, els[k]? = some x := ⟨_, List.getElem?_eq_getElem (by rw [HN.out]; omega)⟩
      obtain ⟨b1, o1, rfl, hb1, hr1⟩ : ∃ b off, a = some ⟨b, off, none⟩ ∧ b < w.heap.size ∧ ∀ i x, els[i]? = some x → w.rangeAt b (off + i * 71) (we x) := by rcases H.out.lay with e | e; omega; exact e
      have R1 : Hid _ := HK.out.range hb1 (fun h => h) (hr1 k x hx)
      have Hx : Hid _ := hx
      have hc : Hid (Calls Tryz.prog g (bs.push (.agg (we x).toArray) ++ ls) wr fun e w2 => e = .returned (.bool (p x)) ∧ Keep (fun _ => False) wr w2) := HP.out wr x (List.mem_of_getElem? hx) HK.out
      clear hr1 hx
      by_cases hpx : p x = true
      · have HPX : Hid _ := hpx
        rw [hpx] at hc
        clear hpx
        go_wp2_with (first | ((with_reducible refine Gn.at_load 71 ?_); refine St.wl_load tyW (by rfl) rfl rfl R1.out (W_enc.len x) ?_; simp only [Act.put, List.setIfInBounds_toArray, List.set_cons_zero, List.set_cons_succ]) | (go_at_fn g; refine hc.out.mono ?_; rintro e w2 ⟨rfl, h2⟩; have K2 : Hid _ := h2; clear h2))
        go_ret
        exact ⟨by rw [St.idx_some Hx.out HPX.out HB.out]; rfl, HK.out.trans K2.out⟩
      · have hpf : p x = false := by simpa using hpx
        have HPX : Hid _ := hpf
        rw [hpf] at hc
        clear hpx hpf
        go_wp2_with (first | ((with_reducible refine Gn.at_load 71 ?_); refine St.wl_load tyW (by rfl) rfl rfl R1.out (W_enc.len x) ?_; simp only [Act.put, List.setIfInBounds_toArray, List.set_cons_zero, List.set_cons_succ]) | (go_at_fn g; refine hc.out.mono ?_; rintro e w2 ⟨rfl, h2⟩; have K2 : Hid _ := h2; clear h2))
        go_roundw
        case rel =>
          refine ⟨k + 1, by omega, rfl, HK.out.trans K2.out, fun j y hj hy => ?_⟩
          rcases Nat.lt_or_ge j k with h1 | h1
          · exact HB.out j y h1 hy
          · obtain rfl : j = k := by omega
            rw [Hx.out] at hy
            rw [← Option.some.inj hy]
            exact HPX.out
        case measure => simp [intOf]; omega
    · obtain rfl : k = n := by omega
      go_wp2
      go_ret
      exact ⟨by rw [St.idx_none (by rw [HN.out]; exact HB.out)]; rfl, HK.out⟩
set_option maxRecDepth 100000 in
theorem W_contains (w : World) (a : Option Addr) (n c : Nat) (els : List Wt) (h : St.At 71 we w a n els) (hm : n ≤ 1000000) (g : Nat) (bs ls : Array Value) (p : Wt → Bool)
    (eg : ∀ args w, (callFunc g args).run Tryz.prog w = .ok (.enter g args) w) (hp : W_Tells (fun _ => False) w g bs ls els p) (v : Bool) (hv : els.any p = v) :
    Calls Tryz.prog 73 #[.slice a n c, .func (.func g) bs ls] w fun e w' => e = .returned (.bool v) ∧ Keep (fun _ => False) w w' := by
  have hi := W_index w a n c els h hm g bs ls p eg hp
  obtain ⟨q, hq⟩ : ∃ q, St.idx p els = q := ⟨_, rfl⟩
  have hqv : (decide (0 ≤ q)) = v := by rw [← hv, ← hq]; exact St.idx_any p els
  rw [hq] at hi
  have HI : Hid (Calls _ _ _ _ _) := hi
  have HQ : Hid _ := hqv
  clear h hp hi hq hv hqv
  go_enter Tryz.func73, Tryz.ntmps73
  go_wp2_with (first | (go_at_call 70; refine HI.out.mono ?_; rintro e w1 ⟨rfl, k1⟩; have K1 : Hid _ := k1; clear k1))
  go_ret
  refine ⟨?_, K1.out⟩
  rw [← HQ.out]
  rfl
set_option maxRecDepth 100000 in
set_option maxHeartbeats 1000000 in
theorem W_grow (w : World) (n : Nat) (hn : n ≤ 1000000) : Calls Tryz.prog 107 #[.slice none 0 0, .int .i64 n] w fun e w' => ∃ v, e = .returned v ∧ St.New 71 71 we w w' v [] := by
  by_cases h0 : n = 0
  · subst h0
    go_enter Tryz.func107, Tryz.ntmps107
    go_wp2
    go_ret
    exact ⟨_, rfl, St.Own.nil _ _ _ _, Keep.refl _ _, fun k hk => by simp [Value.ownBlock] at hk⟩
  · obtain ⟨i, hi, hz, hs, hby⟩ := (slW).info
    have hr := fun ty => Lib.run_append_nil_zeros (P := Tryz.prog) w 66 3 ty 71 i _ .i64 .i64 (slW).und Tryz.underlying3 hi hz n (by omega) (by rw [hs]; omega) (by omega) (by rw [hby]; omega)
    have hge := grownCap_ge w n 0 71
    have hcm := grownCap_le_maxLen w n 0 71 (by unfold maxLen; omega)
    generalize grownCap w n 0 71 = C at hr hge hcm
    have hzs := (slW).cells
    have HR : Hid _ := hr
    have hO := St.Own.of (T := 71) (els := ([] : List Wt)) W_enc (heap_alloc_new w.drew (.cells (Builtin.zeroCells (Value.cells _) n ++ Builtin.zeroCells (Value.cells _) (C - n)) 71)) (Nat.zero_le _) hcm (by rw [Array.size_append, size_zeroCells, size_zeroCells, hzs, ← Nat.add_mul]; congr 1; omega) (by simp)
    have O1 : Hid _ := hO
    clear hr hO hi hz hs hby hcm hzs
    have hn1 : ¬ ((n : Int) < 0) := by omega
    have hn0 : (0 : Int) < n := by omega
    clear h0
    go_enter Tryz.func107, Tryz.ntmps107
    go_wp2_with (at_builtin; refine Lib.wpList_append_run _ rfl _ _ _ _ rfl _ _ rfl rfl _ _ (HR.out _) ?_; simp only [Act.put, List.setIfInBounds_toArray, List.set_cons_zero, List.set_cons_succ])
    go_ret
    exact ⟨_, rfl, O1.out, (Keep.refl _ _).drew.alloc _, fun k hk => by have e : w.heap.size = k := Option.some.inj hk; omega⟩
set_option maxRecDepth 100000 in
set_option maxHeartbeats 2000000 in
theorem W_concat (w : World) (b n c n2 c2 : Nat) (a a2 : Option Addr) (l l2 : List Wt) (hb : w.heap[b]? = some (.cells #[.slice a n c, .slice a2 n2 c2] 66 (0, 0))) (h1 : St.At 71 we w a n l) (h2 : St.At 71 we w a2 n2 l2) (hm : n + n2 ≤ 100000) :
    Calls Tryz.prog 75 #[.slice (some ⟨b, 0, none⟩) 2 2] w fun e w' => ∃ v, e = .returned v ∧ St.New 71 71 we w w' v (l ++ l2) := by
  have HB : Hid _ := hb
  have H1 : Hid (St.At 71 we w a n l) := h1
  have H2 : Hid (St.At 71 we w a2 n2 l2) := h2
  have hc0 : w.cell? ⟨b, 0, none⟩ = some (.slice a n c) := by rw [cell_of hb]; rfl
  have hc1 : w.cell? ⟨b, 1, none⟩ = some (.slice a2 n2 c2) := by rw [cell_of hb]; rfl
  have hl1 : Hid (l.length = n) := h1.len
  have hl2 : Hid (l2.length = n2) := h2.len
  clear hb h1 h2
  have hg : Hid (Calls Tryz.prog 107 #[.slice none 0 0, .int .i64 ((n : Int) + (n2 : Int))] w fun e w' => ∃ v, e = .returned v ∧ St.New 71 71 we w w' v []) := by
    show Calls _ _ _ _ _
    have := W_grow w (n + n2) (by omega)
    push_cast at this
    exact this
  go_enter Tryz.func75, Tryz.ntmps75
  go_wp2
  refine wp_loop_rounds 3 ?_
  (repeat any_goals (rw [rounds_succ]; go_wp2_with (go_at_call 107; refine hg.out.mono ?_; rintro e w1 ⟨v, rfl, h1⟩; have N1 : Hid (St.New 71 71 we w w1 v []) := h1; have hd0 : w1.cell? ⟨b, 0, none⟩ = some (.slice a n c) := (by rw [cell_of (h1.2.1.get HB.out (fun h => h))]; rfl); have hd1 : w1.cell? ⟨b, 1, none⟩ = some (.slice a2 n2 c2) := (by rw [cell_of (h1.2.1.get HB.out (fun h => h))]; rfl); clear h1)))
  refine wp_loop_rounds 3 ?_
  have A1 : Hid (St.At 71 we w1 a n l) := H1.out.calm N1.out.2.1
  have A2 : Hid (St.At 71 we w1 a2 n2 l2) := H2.out.calm N1.out.2.1
  (repeat any_goals (rw [rounds_succ]; go_wp2_with (first | (refine St.wl_appR W_enc slW (by decide) rfl rfl rfl N1.out.1 rfl A1.out (by simp; omega) ?_; intro v2 w2 h1 h2 h3; have N2 : Hid (St.New 71 71 we w w2 v2 l) := (by have := N1.out.trans h2 h1 h3; exact this); have A2 : Hid (St.At 71 we w2 a2 n2 l2) := H2.out.calm N2.out.2.1; have hd1 : w2.cell? ⟨b, 1, none⟩ = some (.slice a2 n2 c2) := (by rw [cell_of (N2.out.2.1.get HB.out (fun h => h))]; rfl); clear h1 h2 h3; simp only [Act.put, List.setIfInBounds_toArray, List.set_cons_zero, List.set_cons_succ]) | (refine St.wl_appR W_enc slW (by decide) rfl rfl rfl N2.out.1 rfl A2.out (by have := hl1.out; omega) ?_; intro v3 w3 h1 h2 h3; have N3 : Hid (St.New 71 71 we w w3 v3 (l ++ l2)) := (by have := N2.out.trans h2 h1 h3; exact this); clear h1 h2 h3; simp only [Act.put, List.setIfInBounds_toArray, List.set_cons_zero, List.set_cons_succ]))))
  go_ret
  exact ⟨v3, rfl, N3.out⟩
end Pn
end Go.Proofs.YtpchpdnjgdpdgaaGreatDoor
