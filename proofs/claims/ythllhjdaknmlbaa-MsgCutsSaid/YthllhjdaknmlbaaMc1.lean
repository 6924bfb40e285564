/-
  slices.Chunk at ids: its iterator.
-/
import Derived.Test.YthllhjdaknmlbaaRng
import Derived.Test.YthllhjdaknmlbaaMsg7
set_option linter.unusedVariables false
set_option linter.unusedSimpArgs false
namespace Go.Proofs.Ythllhjdaknmlbaa
open Go.RowKit
namespace Mc
open Oct Ids Ms
attribute [local go_sem] Oper.semAt_some
/-- The address, so many ids on. -/
def adv (a : Option Addr) (j : Nat) : Option Addr := a.map fun p => ⟨p.block, p.off + j * 32, none⟩
def pc (a : Option Addr) (n k : Nat) : Value := .slice (adv a (16 * k)) (min 16 (n - 16 * k)) (min 16 (n - 16 * k))
/-- What a round keeps: what the iterator has captured. -/
def Kc (b1 b2 : Nat) (A B : World) : Prop := B.heap[b1]? = A.heap[b1]? ∧ B.heap[b2]? = A.heap[b2]?
theorem Kc.refl (b1 b2 : Nat) (A : World) : Kc b1 b2 A A := ⟨rfl, rfl⟩
theorem Kc.trans {b1 b2 : Nat} {A B C : World} (h : Kc b1 b2 A B) (k : Kc b1 b2 B C) : Kc b1 b2 A C := ⟨k.1.trans h.1, k.2.trans h.2⟩
theorem Kc.c1 {b1 b2 : Nat} {A B : World} (h : Kc b1 b2 A B) : B.cell? ⟨b1, 0, none⟩ = A.cell? ⟨b1, 0, none⟩ := by simp only [World.cell?, h.1]
theorem Kc.c2 {b1 b2 : Nat} {A B : World} (h : Kc b1 b2 A B) : B.cell? ⟨b2, 0, none⟩ = A.cell? ⟨b2, 0, none⟩ := by simp only [World.cell?, h.2]
set_option maxRecDepth 100000 in
set_option maxHeartbeats 4000000 in
theorem chunk_stops (b1 b2 : Nat) (a : Option Addr) (n c : Nat) (w : World) (h1 : b1 < w.heap.size) (h2 : b2 < w.heap.size) (c1 : w.cell? ⟨b1, 0, none⟩ = some (.slice a n c)) (c2 : w.cell? ⟨b2, 0, none⟩ = some (.int .i64 16)) (hnc : n ≤ c) (hn : n ≤ 100) (ha : n = 0 ∨ ∃ g o, a = some ⟨g, o, none⟩) :
    SeqStopsK Fence.wide 8 Try.prog 30 #[.pointer (some ⟨b1, 0, none⟩), .pointer (some ⟨b2, 0, none⟩)] (fun k : Nat => #[pc a n k]) (Kc b1 b2) (fun xs => xs = List.range ((n + 15) / 16)) (fun _ => True) ((n + 15) / 16) w := by
  intro l J Jx W hW hJ hJx hY h0
  have HB : Hid (Below w.heap.size w W) := hW
  have HY : Hid _ := hY
  have HJa : Hid (AbidesFrom W.heap.size J) := hJ
  have H0 : Hid (J [] W) := h0
  have C1 : ∀ wr, Kc b1 b2 W wr → wr.cell? ⟨b1, 0, none⟩ = some (.slice a n c) := fun wr hb => hb.c1.trans ((hW.cell (p := ⟨b1, 0, none⟩) h1).trans c1)
  have C2 : ∀ wr, Kc b1 b2 W wr → wr.cell? ⟨b2, 0, none⟩ = some (.int .i64 16) := fun wr hb => hb.c2.trans ((hW.cell (p := ⟨b2, 0, none⟩) h2).trans c2)
  clear hW hY hJ hJx h0 c1 c2
  refine callsIn_wide.2 ?_
  go_enter Try.func30, Try.ntmps30
  go_wp2
  go_loopw [4] (fun s4 wr => ∃ k : Nat, k ≤ (n + 15) / 16 ∧ s4 = .int .i64 ((16 * k : Nat) : Int) ∧ J (List.range k) wr ∧ Kc b1 b2 W wr) (fun s4 _ => 200 - (intOf s4).toNat)
  case atStart => exact ⟨0, Nat.zero_le _, by go_num, H0.out, Kc.refl _ _ _⟩
  case round =>
    obtain ⟨k, hk, rfl, hJs, hB⟩ := hrel
    have d1 := C1 wr hB
    have d2 := C2 wr hB
    have HJ : Hid (J (List.range k) wr) := hJs
    have HBl : Hid (Kc b1 b2 W wr) := hB
    clear hJs hB
    by_cases hlt : 16 * k < n
    · obtain ⟨g, o, rfl⟩ := ha.resolve_left (by omega)
      obtain ⟨K, hK⟩ : ∃ K, 16 * k = K := ⟨_, rfl⟩
      have hpc : pc (some ⟨g, o, none⟩) n k = .slice (some ⟨g, o + K * 32, none⟩) (min 16 (n - K)) (min 16 (n - K)) := by unfold pc; rw [hK]; rfl
      obtain ⟨q, hq⟩ : ∃ q, n - K = q := ⟨_, rfl⟩
      obtain ⟨e, he⟩ : ∃ e, min 16 q = e := ⟨_, rfl⟩
      rw [hq, he] at hpc
      have hNk : (List.range k).length < (n + 15) / 16 := by rw [List.length_range]; omega
      have hK2 : (K : Int) + 16 = ((16 * (k + 1) : Nat) : Int) := by omega
      rw [hK] at hlt ⊢
      clear hK
      have he1 : 1 ≤ e := by omega
      have he2 : K + e ≤ n := by omega
      have he3 : (if (q : Int) < 16 then (q : Int) else 16) = (e : Int) := by split <;> omega
      have he4 : e ≤ 16 := by omega
      go_wp2
      refine Txt.wp_region_text (id := 3) (fun _ => True) [1, 1, 0, 0, 0, 0, 0] (by kernel_rfl) (by kernel_rfl) trivial ?_
      have d1' : wr.drew.cell? ⟨b1, 0, none⟩ = some (.slice (some ⟨g, o, none⟩) n c) := d1
      have d2' : wr.drew.cell? ⟨b2, 0, none⟩ = some (.int .i64 16) := d2
      (repeat (first | (refine Txt.tl_pure (v := ?_) (by rfl) ?_ ?_; rotate_left; (focus (intro _; go_simp; try with_reducible rfl)); simp only [Act.put, List.setIfInBounds_toArray, List.set_cons_zero, List.set_cons_succ]) | (refine Txt.tl_load (v := ?_) (by rfl) (by rfl) (by rfl) (by kernel_rfl) ?_ ?_; rotate_left; (focus (first | exact d1' | exact d2')); simp only [Act.put, List.setIfInBounds_toArray, List.set_cons_zero, List.set_cons_succ])))
      have h01 : 0 ≤ (K : Int) ∧ (K : Int) ≤ n := by omega
      have hcn : ¬ c = K := by omega
      refine Txt.tl_pure (v := .slice (some ⟨g, o + K * 32, none⟩) q (c - K)) (by rfl) (fun w2 => by go_simp; try rw [if_pos h01, if_neg hcn, hq]) ?_
      simp only [Act.put, List.setIfInBounds_toArray, List.set_cons_zero, List.set_cons_succ]
      have HJd : Hid (J (List.range k) wr.drew) := HJa.out _ _ _ none HJ.out ⟨rfl, rfl, rfl, Nat.le_refl _, fun _ _ _ => rfl⟩ (fun r e => by cases e)
      have HBd : Hid (Kc b1 b2 W wr.drew) := HBl.out
      obtain ⟨fn, tmps, assign, body, hy, hR⟩ := HY.out _ k wr.drew HJd.out hNk
      rw [hpc] at hy
      have HR : Hid (RoundIn Fence.wide 7 Try.prog l fn tmps assign body wr.drew fun e W' => e = .returned (.bool true) ∧ J (List.range k ++ [k]) W' ∧ Kc b1 b2 wr.drew W' ∨ e = .returned (.bool false) ∧ Jx (List.range k ++ [k]) W') := hR
      have HSn : Hid (List.range k ++ [k] = List.range (k + 1)) := List.range_succ.symm
      have HNk : Hid ((List.range k).length < (n + 15) / 16) := hNk
      clear hR hpc HJ HBl HJd d1 d2 hNk
      (repeat (first | (refine Txt.tl_pure (v := ?_) (by rfl) ?_ ?_; rotate_left; (focus (intro _; go_simp; try with_reducible rfl)); simp only [Act.put, List.setIfInBounds_toArray, List.set_cons_zero, List.set_cons_succ])))
      try simp only [he3]
      have ht2 : ((K : Int) + e).toNat - K = e := by omega
      refine Txt.tl_nil ?_
      have hc1 := d1'
      refine ‹∀ (a : Act) (w : World), Code.wp _ _ _ a w → _› _ _ ?_
      refine (wpIn_wide (n := 8)).1 ?_
      gi_wp2
      refine HR.out.mono ?_
      clear hy HR
      rintro e' W3 (⟨rfl, hJ3, hk3⟩ | ⟨rfl, hJx3⟩)
      · rw [HSn.out] at hJ3
        have HJ3 : Hid (J (List.range (k + 1)) W3) := hJ3
        have HB3 : Hid (Kc b1 b2 W W3) := HBd.out.trans hk3
        have d3 := C2 W3 HB3.out
        clear hJ3 hk3 d1' d2'
        gi_wp2
        go_wp2
        go_roundw
        case rel => exact ⟨k + 1, by have := HNk.out; rw [List.length_range] at this; omega, congrArg (Value.int .i64) (show 16 * ((k : Int) + 1) = ((16 * (k + 1) : Nat) : Int) by omega), HJ3.out, HB3.out⟩
        case measure => simp [intOf]; omega
      · have HJ3 : Hid (Jx (List.range k ++ [k]) W3) := hJx3
        clear hJx3
        gi_wp2
        refine bodyPost_ret (results_none rfl _ _ _) rfl ?_
        exact ⟨⟨_, rfl⟩, .inr ⟨_, trivial, HJ3.out⟩⟩
    · obtain rfl : k = (n + 15) / 16 := by omega
      go_wp2
      go_end0
      exact ⟨⟨_, rfl⟩, .inl ⟨_, rfl, HJ.out⟩⟩
set_option maxRecDepth 100000 in
/-- 'slices.Chunk(l, 16)'. -/
theorem chunk_any (w : World) (a : Option Addr) (n c : Nat) : Calls Try.prog 12 #[.slice a n c, .int .i64 16] w fun e w' => e = .returned (.func (.func 30) #[] #[.pointer (some ⟨w.heap.size, 0, none⟩), .pointer (some ⟨w.heap.size + 1, 0, none⟩)]) ∧
    w' = (w.alloc (.cells #[.slice a n c] 22)).alloc (.cells #[.int .i64 16] 3) := by
  go_enter Try.func12, Try.ntmps12
  go_wp2
  go_ret
  exact ⟨rfl, rfl⟩
end Mc
end Go.Proofs.Ythllhjdaknmlbaa
