/-
  petrelref06: Has, Compare. petrelref06.Compare. petrelref06.With. petrelref06.With of one that is not there. petrelref06.With at nil. petrelref06.With of a row of one's own; Set. petrelref06.Set. petrelref06: Is, Both. petrelref06.Both. petrelref06: Without. petrelref06: Less.
-/
import Derived.Test.YtgllkfolckbdhaaGIf
import Derived.Test.YtgllkfolckbdhaaGSr
set_option linter.unusedVariables false
set_option linter.unusedSimpArgs false

namespace Go.Proofs.Ytgllkfolckbdhaa
open Go.RowKit
namespace Ids
open Oct
set_option maxRecDepth 100000 in
set_option maxHeartbeats 1000000 in
theorem xhas_any (w : World) (a : Option Addr) (n c : Nat) (els : List (List UInt8)) (h : At w a n els) (hm : n ≤ 1000000) (x : List UInt8) (hx : x.length = 32) :
    Calls Try.prog 18 #[.slice a n c, idv x] w fun e w' => e = .returned (.bool (decide (x ∈ els))) ∧ Keep (fun _ => False) w w' := by
  have H : Hid (At w a n els) := h
  have HN : Hid (els.length = n) := h.len
  have Lx : Hid (x.length = 32) := hx
  have hgd := guard_id
  clear h hx
  go_enter Try.func18, Try.ntmps18
  go_wp2
  go_loopw [5] (fun i wr => ∃ k : Nat, k ≤ n ∧ i = .int .i64 k ∧ Keep (fun _ => False) (w.alloc (.cells (x.map bv).toArray 32)) wr ∧ x ∉ els.take k) (fun i _ => n - (intOf i).toNat)
  case atStart => exact ⟨0, Nat.zero_le _, rfl, Keep.refl _ _, by simp⟩
  case round =>
    obtain ⟨k, hk, rfl, hkp, hb⟩ := hrel
    have HK : Hid (Keep (fun _ => False) (w.alloc (.cells (x.map bv).toArray 32)) wr) := hkp
    have HB : Hid (x ∉ els.take k) := hb
    clear hkp hb
    have HKw : Hid (Keep (fun _ => False) w wr) := ((Keep.refl _ _).alloc _).trans HK.out
    by_cases hlt : k < n
    · obtain ⟨y, hy⟩ : ∃ y, els[k]? = some y := ⟨_, List.getElem?_eq_getElem (by rw [HN.out]; omega)⟩
      obtain ⟨b1, o1, rfl, hb1, hr1⟩ : ∃ b off, a = some ⟨b, off, none⟩ ∧ b < w.heap.size ∧ ∀ i x, els[i]? = some x → w.rangeAt b (off + i * 32) (x.map bv) := by rcases H.out.lay with e | e; omega; exact e
      have R1 : Hid (wr.rangeAt b1 (o1 + k * 32) (y.map bv)) := HKw.out.range hb1 (fun h => h) (hr1 k y hy)
      have R2 : Hid (wr.rangeAt w.heap.size 0 (x.map bv)) := HK.out.range (by simp) (fun h => h) (range_new w _ _)
      have Ly : Hid (y.length = 32) := H.out.size y (List.mem_of_getElem? hy)
      have L1 : Hid ((y.map bv).length = 32) := by show (y.map bv).length = 32; rw [List.length_map, Ly.out]
      have L2 : Hid ((x.map bv).length = 32) := by show (x.map bv).length = 32; rw [List.length_map, Lx.out]
      have Hy : Hid (els[k]? = some y) := hy
      have hcmp : ∀ w, Sem.run Try.prog (binOp .eql 32 (idv y) (idv x)) w = .ok (.bool (y == x)) w := fun w => eql_id w y x Ly.out Lx.out
      clear hr1 hy
      by_cases he : y = x
      · have HE : Hid (y = x) := he
        have heb : (y == x) = true := by simpa using he
        rw [heb] at hcmp
        clear he heb
        go_wp2
        refine Txt.wp_region_text (fun _ => True) [0, 0, 0, 1, 1, 0] (by kernel_rfl) (by kernel_rfl) trivial ?_
        repeat (first
          | (refine Txt.tl_pure (v := ?_) (by rfl) ?_ ?_; rotate_left; (focus (intro _; go_simp; try with_reducible rfl)); simp only [Act.put, List.setIfInBounds_toArray, List.set_cons_zero, List.set_cons_succ])
          | (refine Txt.tl_skip (by rfl) trivial ?_; simp only [Act.put, List.setIfInBounds_toArray, List.set_cons_zero, List.set_cons_succ])
          | (refine Txt.tl_load (v := ?_) (by rfl) (by rfl) (by rfl) (by kernel_rfl) ?_ ?_; rotate_left; (focus (first | assumption | (go_simp; done) | (go_simp; with_reducible rfl))); simp only [Act.put, List.setIfInBounds_toArray, List.set_cons_zero, List.set_cons_succ])
          | (refine Txt.tl_alloc (by rfl) ?_; go_simp; refine ⟨by (first | exact Txt.Le.alloc_drew _ _ | exact Txt.Le.alloc _ _), ?_⟩))
        refine Txt.tl_loadRow (by rfl) (by rfl) (by rfl) R1.out (by rw [L1.out]; kernel_rfl) ?_
        simp only [Act.put, List.setIfInBounds_toArray, List.set_cons_zero, List.set_cons_succ]
        repeat (first
          | (refine Txt.tl_pure (v := ?_) (by rfl) ?_ ?_; rotate_left; (focus (intro _; go_simp; try with_reducible rfl)); simp only [Act.put, List.setIfInBounds_toArray, List.set_cons_zero, List.set_cons_succ])
          | (refine Txt.tl_skip (by rfl) trivial ?_; simp only [Act.put, List.setIfInBounds_toArray, List.set_cons_zero, List.set_cons_succ])
          | (refine Txt.tl_load (v := ?_) (by rfl) (by rfl) (by rfl) (by kernel_rfl) ?_ ?_; rotate_left; (focus (first | assumption | (go_simp; done) | (go_simp; with_reducible rfl))); simp only [Act.put, List.setIfInBounds_toArray, List.set_cons_zero, List.set_cons_succ])
          | (refine Txt.tl_alloc (by rfl) ?_; go_simp; refine ⟨by (first | exact Txt.Le.alloc_drew _ _ | exact Txt.Le.alloc _ _), ?_⟩))
        refine Txt.tl_loadRow (by rfl) (by rfl) (by rfl) R2.out (by rw [L2.out]; kernel_rfl) ?_
        simp only [Act.put, List.setIfInBounds_toArray, List.set_cons_zero, List.set_cons_succ]
        repeat (first
          | (refine Txt.tl_pure (v := ?_) (by rfl) ?_ ?_; rotate_left; (focus (intro _; go_simp; try with_reducible rfl)); simp only [Act.put, List.setIfInBounds_toArray, List.set_cons_zero, List.set_cons_succ])
          | (refine Txt.tl_skip (by rfl) trivial ?_; simp only [Act.put, List.setIfInBounds_toArray, List.set_cons_zero, List.set_cons_succ])
          | (refine Txt.tl_load (v := ?_) (by rfl) (by rfl) (by rfl) (by kernel_rfl) ?_ ?_; rotate_left; (focus (first | assumption | (go_simp; done) | (go_simp; with_reducible rfl))); simp only [Act.put, List.setIfInBounds_toArray, List.set_cons_zero, List.set_cons_succ])
          | (refine Txt.tl_alloc (by rfl) ?_; go_simp; refine ⟨by (first | exact Txt.Le.alloc_drew _ _ | exact Txt.Le.alloc _ _), ?_⟩))
        refine Txt.tl_nil ?_
        go_wp2
        go_ret
        refine ⟨?_, HKw.out.drew⟩
        rw [decide_eq_true (by rw [← HE.out]; exact List.mem_of_getElem? Hy.out)]
        rfl
      · have HE : Hid (y ≠ x) := he
        have heb : (y == x) = false := by simpa using he
        rw [heb] at hcmp
        clear he heb
        go_wp2
        refine Txt.wp_region_text (fun _ => True) [0, 0, 0, 1, 1, 0] (by kernel_rfl) (by kernel_rfl) trivial ?_
        repeat (first
          | (refine Txt.tl_pure (v := ?_) (by rfl) ?_ ?_; rotate_left; (focus (intro _; go_simp; try with_reducible rfl)); simp only [Act.put, List.setIfInBounds_toArray, List.set_cons_zero, List.set_cons_succ])
          | (refine Txt.tl_skip (by rfl) trivial ?_; simp only [Act.put, List.setIfInBounds_toArray, List.set_cons_zero, List.set_cons_succ])
          | (refine Txt.tl_load (v := ?_) (by rfl) (by rfl) (by rfl) (by kernel_rfl) ?_ ?_; rotate_left; (focus (first | assumption | (go_simp; done) | (go_simp; with_reducible rfl))); simp only [Act.put, List.setIfInBounds_toArray, List.set_cons_zero, List.set_cons_succ])
          | (refine Txt.tl_alloc (by rfl) ?_; go_simp; refine ⟨by (first | exact Txt.Le.alloc_drew _ _ | exact Txt.Le.alloc _ _), ?_⟩))
        refine Txt.tl_loadRow (by rfl) (by rfl) (by rfl) R1.out (by rw [L1.out]; kernel_rfl) ?_
        simp only [Act.put, List.setIfInBounds_toArray, List.set_cons_zero, List.set_cons_succ]
        repeat (first
          | (refine Txt.tl_pure (v := ?_) (by rfl) ?_ ?_; rotate_left; (focus (intro _; go_simp; try with_reducible rfl)); simp only [Act.put, List.setIfInBounds_toArray, List.set_cons_zero, List.set_cons_succ])
          | (refine Txt.tl_skip (by rfl) trivial ?_; simp only [Act.put, List.setIfInBounds_toArray, List.set_cons_zero, List.set_cons_succ])
          | (refine Txt.tl_load (v := ?_) (by rfl) (by rfl) (by rfl) (by kernel_rfl) ?_ ?_; rotate_left; (focus (first | assumption | (go_simp; done) | (go_simp; with_reducible rfl))); simp only [Act.put, List.setIfInBounds_toArray, List.set_cons_zero, List.set_cons_succ])
          | (refine Txt.tl_alloc (by rfl) ?_; go_simp; refine ⟨by (first | exact Txt.Le.alloc_drew _ _ | exact Txt.Le.alloc _ _), ?_⟩))
        refine Txt.tl_loadRow (by rfl) (by rfl) (by rfl) R2.out (by rw [L2.out]; kernel_rfl) ?_
        simp only [Act.put, List.setIfInBounds_toArray, List.set_cons_zero, List.set_cons_succ]
        repeat (first
          | (refine Txt.tl_pure (v := ?_) (by rfl) ?_ ?_; rotate_left; (focus (intro _; go_simp; try with_reducible rfl)); simp only [Act.put, List.setIfInBounds_toArray, List.set_cons_zero, List.set_cons_succ])
          | (refine Txt.tl_skip (by rfl) trivial ?_; simp only [Act.put, List.setIfInBounds_toArray, List.set_cons_zero, List.set_cons_succ])
          | (refine Txt.tl_load (v := ?_) (by rfl) (by rfl) (by rfl) (by kernel_rfl) ?_ ?_; rotate_left; (focus (first | assumption | (go_simp; done) | (go_simp; with_reducible rfl))); simp only [Act.put, List.setIfInBounds_toArray, List.set_cons_zero, List.set_cons_succ])
          | (refine Txt.tl_alloc (by rfl) ?_; go_simp; refine ⟨by (first | exact Txt.Le.alloc_drew _ _ | exact Txt.Le.alloc _ _), ?_⟩))
        refine Txt.tl_nil ?_
        go_wp2
        go_roundw
        case rel =>
          refine ⟨k + 1, by omega, rfl, HK.out.drew, ?_⟩
          rw [IdL.take_snoc Hy.out, List.mem_append, List.mem_singleton]
          rintro (h | h)
          · exact HB.out h
          · exact HE.out h.symm
        case measure => simp [intOf]; omega
    · obtain rfl : k = n := by omega
      have e : els.take k = els := List.take_of_length_le (by rw [HN.out]; exact Nat.le_refl _)
      have HB2 : Hid (decide (x ∈ els) = false) := by
        have := HB.out
        rw [e] at this
        exact decide_eq_false this
      clear e
      go_wp2
      go_ret
      exact ⟨by rw [HB2.out]; rfl, HKw.out⟩
theorem cmpL_step : ∀ (x y : List UInt8), x.length = y.length → ∀ (k : Nat) (a b : UInt8), x.take k = y.take k → x[k]? = some a → y[k]? = some b → IdL.cmpL x y = if a.toNat < b.toNat then -1 else if b.toNat < a.toNat then 1 else IdL.cmpL x y
  | [], _, _, k, a, b, _, h, _ => by simp at h
  | _ :: _, [], h, _, _, _, _, _, _ => by simp at h
  | u :: x, v :: y, hl, 0, a, b, _, ha, hb => by
    simp only [List.getElem?_cons_zero, Option.some.injEq] at ha hb
    subst ha hb
    unfold IdL.cmpL
    split
    · rfl
    · split
      · rfl
      · rfl
  | u :: x, v :: y, hl, k + 1, a, b, ht, ha, hb => by
    simp only [List.take_succ_cons, List.cons.injEq] at ht
    obtain ⟨rfl, ht⟩ := ht
    have := cmpL_step x y (by simpa using hl) k a b ht (by simpa using ha) (by simpa using hb)
    unfold IdL.cmpL
    rw [if_neg (Nat.lt_irrefl _), if_neg (Nat.lt_irrefl _)]
    exact this
end Ids
end Go.Proofs.Ytgllkfolckbdhaa


namespace Go.Proofs.Ytgllkfolckbdhaa
open Go.RowKit
namespace Ids
open Oct
set_option maxRecDepth 100000 in
set_option maxHeartbeats 2000000 in
theorem xcompare_any (w : World) (x y : List UInt8) (hx : x.length = 32) (hy : y.length = 32) : Calls Try.prog 51 #[idv x, idv y] w fun e w' => e = .returned (.int .i64 (IdL.cmpL x y)) ∧ Keep (fun _ => False) w w' := by
  have Lx : Hid (x.length = 32) := hx
  have Ly : Hid (y.length = 32) := hy
  have B1 : Hid (((w.alloc (.cells (x.map bv).toArray 32)).alloc (.cells (y.map bv).toArray 32)).heap[w.heap.size]? = some (.cells (x.map bv).toArray 32 (0, 0))) := heap_a (heap_alloc_new w _)
  have B2 : Hid (((w.alloc (.cells (x.map bv).toArray 32)).alloc (.cells (y.map bv).toArray 32)).heap[w.heap.size + 1]? = some (.cells (y.map bv).toArray 32 (0, 0))) := by
    have := heap_alloc_new (w.alloc (.cells (x.map bv).toArray 32)) (.cells (y.map bv).toArray 32)
    have e : (w.alloc (.cells (x.map bv).toArray 32)).heap.size = w.heap.size + 1 := by simp
    rwa [e] at this
  clear hx hy
  go_enter Try.func51, Try.ntmps51
  go_wp2
  go_loopw [5] (fun i wr => ∃ k : Nat, k ≤ 32 ∧ i = .int .i64 k ∧ Keep (fun _ => False) ((w.alloc (.cells (x.map bv).toArray 32)).alloc (.cells (y.map bv).toArray 32)) wr ∧ x.take k = y.take k) (fun i _ => 32 - (intOf i).toNat)
  case atStart => exact ⟨0, Nat.zero_le _, rfl, Keep.refl _ _, rfl⟩
  case round =>
    obtain ⟨k, hk, rfl, hkp, hb⟩ := hrel
    have HK : Hid (Keep (fun _ => False) ((w.alloc (.cells (x.map bv).toArray 32)).alloc (.cells (y.map bv).toArray 32)) wr) := hkp
    have HB : Hid (x.take k = y.take k) := hb
    have HKw : Hid (Keep (fun _ => False) w wr) := (((Keep.refl _ _).alloc _).alloc _).trans hkp
    clear hkp hb
    by_cases hlt : k < 32
    · obtain ⟨u, hu⟩ : ∃ u, x[k]? = some u := ⟨_, List.getElem?_eq_getElem (by rw [Lx.out]; omega)⟩
      obtain ⟨v, hv⟩ : ∃ v, y[k]? = some v := ⟨_, List.getElem?_eq_getElem (by rw [Ly.out]; omega)⟩
      have hc1 : wr.cell? ⟨w.heap.size, k, none⟩ = some (.int .u8 u.toNat) := by
        rw [cell_of (HK.out.get B1.out (fun h => h)), List.getElem?_toArray, List.getElem?_map, hu]; rfl
      have hc2 : wr.cell? ⟨w.heap.size + 1, k, none⟩ = some (.int .u8 v.toNat) := by
        rw [cell_of (HK.out.get B2.out (fun h => h)), List.getElem?_toArray, List.getElem?_map, hv]; rfl
      have hstep := cmpL_step x y (by rw [Lx.out, Ly.out]) k u v HB.out hu hv
      have Hu : Hid (x[k]? = some u) := hu
      have Hv : Hid (y[k]? = some v) := hv
      clear hu hv
      by_cases h1 : u.toNat < v.toNat
      · rw [if_pos h1] at hstep
        have HS : Hid (IdL.cmpL x y = -1) := hstep
        clear hstep
        go_wp2
        refine Txt.wp_region_text (fun _ => True) [0, 0, 1, 0, 0, 1, 0] (by kernel_rfl) (by kernel_rfl) trivial ?_
        repeat (first
          | (refine Txt.tl_pure (v := ?_) (by rfl) ?_ ?_; rotate_left; (focus (intro _; go_simp; try with_reducible rfl)); simp only [Act.put, List.setIfInBounds_toArray, List.set_cons_zero, List.set_cons_succ])
          | (refine Txt.tl_skip (by rfl) trivial ?_; simp only [Act.put, List.setIfInBounds_toArray, List.set_cons_zero, List.set_cons_succ])
          | (refine Txt.tl_load (v := ?_) (by rfl) (by rfl) (by rfl) (by kernel_rfl) ?_ ?_; rotate_left; (focus (first | assumption | (go_simp; done) | (go_simp; with_reducible rfl))); simp only [Act.put, List.setIfInBounds_toArray, List.set_cons_zero, List.set_cons_succ])
          | (refine Txt.tl_alloc (by rfl) ?_; go_simp; refine ⟨by (first | exact Txt.Le.alloc_drew _ _ | exact Txt.Le.alloc _ _), ?_⟩))
        refine Txt.tl_nil ?_
        go_wp2
        go_ret
        exact ⟨by rw [HS.out]; rfl, HKw.out.drew⟩
      · rw [if_neg h1] at hstep
        by_cases h2 : v.toNat < u.toNat
        · rw [if_pos h2] at hstep
          have HS : Hid (IdL.cmpL x y = 1) := hstep
          clear hstep
          go_wp2
          refine Txt.wp_region_text (fun _ => True) [0, 0, 1, 0, 0, 1, 0] (by kernel_rfl) (by kernel_rfl) trivial ?_
          repeat (first
            | (refine Txt.tl_pure (v := ?_) (by rfl) ?_ ?_; rotate_left; (focus (intro _; go_simp; try with_reducible rfl)); simp only [Act.put, List.setIfInBounds_toArray, List.set_cons_zero, List.set_cons_succ])
            | (refine Txt.tl_skip (by rfl) trivial ?_; simp only [Act.put, List.setIfInBounds_toArray, List.set_cons_zero, List.set_cons_succ])
            | (refine Txt.tl_load (v := ?_) (by rfl) (by rfl) (by rfl) (by kernel_rfl) ?_ ?_; rotate_left; (focus (first | assumption | (go_simp; done) | (go_simp; with_reducible rfl))); simp only [Act.put, List.setIfInBounds_toArray, List.set_cons_zero, List.set_cons_succ])
            | (refine Txt.tl_alloc (by rfl) ?_; go_simp; refine ⟨by (first | exact Txt.Le.alloc_drew _ _ | exact Txt.Le.alloc _ _), ?_⟩))
          refine Txt.tl_nil ?_
          go_wp2
          refine Txt.wp_region_text (fun _ => True) [0, 0, 1, 0, 0, 1, 0] (by kernel_rfl) (by kernel_rfl) trivial ?_
          repeat (first
            | (refine Txt.tl_pure (v := ?_) (by rfl) ?_ ?_; rotate_left; (focus (intro _; go_simp; try with_reducible rfl)); simp only [Act.put, List.setIfInBounds_toArray, List.set_cons_zero, List.set_cons_succ])
            | (refine Txt.tl_skip (by rfl) trivial ?_; simp only [Act.put, List.setIfInBounds_toArray, List.set_cons_zero, List.set_cons_succ])
            | (refine Txt.tl_load (v := ?_) (by rfl) (by rfl) (by rfl) (by kernel_rfl) ?_ ?_; rotate_left; (focus (first | assumption | (go_simp; done) | (go_simp; with_reducible rfl))); simp only [Act.put, List.setIfInBounds_toArray, List.set_cons_zero, List.set_cons_succ])
            | (refine Txt.tl_alloc (by rfl) ?_; go_simp; refine ⟨by (first | exact Txt.Le.alloc_drew _ _ | exact Txt.Le.alloc _ _), ?_⟩))
          refine Txt.tl_nil ?_
          go_wp2
          go_ret
          exact ⟨by rw [HS.out]; rfl, HKw.out.drew.drew⟩
        · have he : u = v := UInt8.toNat_inj.1 (by omega)
          have HE : Hid (u = v) := he
          clear hstep he
          go_wp2
          refine Txt.wp_region_text (fun _ => True) [0, 0, 1, 0, 0, 1, 0] (by kernel_rfl) (by kernel_rfl) trivial ?_
          repeat (first
            | (refine Txt.tl_pure (v := ?_) (by rfl) ?_ ?_; rotate_left; (focus (intro _; go_simp; try with_reducible rfl)); simp only [Act.put, List.setIfInBounds_toArray, List.set_cons_zero, List.set_cons_succ])
            | (refine Txt.tl_skip (by rfl) trivial ?_; simp only [Act.put, List.setIfInBounds_toArray, List.set_cons_zero, List.set_cons_succ])
            | (refine Txt.tl_load (v := ?_) (by rfl) (by rfl) (by rfl) (by kernel_rfl) ?_ ?_; rotate_left; (focus (first | assumption | (go_simp; done) | (go_simp; with_reducible rfl))); simp only [Act.put, List.setIfInBounds_toArray, List.set_cons_zero, List.set_cons_succ])
            | (refine Txt.tl_alloc (by rfl) ?_; go_simp; refine ⟨by (first | exact Txt.Le.alloc_drew _ _ | exact Txt.Le.alloc _ _), ?_⟩))
          refine Txt.tl_nil ?_
          go_wp2
          refine Txt.wp_region_text (fun _ => True) [0, 0, 1, 0, 0, 1, 0] (by kernel_rfl) (by kernel_rfl) trivial ?_
          repeat (first
            | (refine Txt.tl_pure (v := ?_) (by rfl) ?_ ?_; rotate_left; (focus (intro _; go_simp; try with_reducible rfl)); simp only [Act.put, List.setIfInBounds_toArray, List.set_cons_zero, List.set_cons_succ])
            | (refine Txt.tl_skip (by rfl) trivial ?_; simp only [Act.put, List.setIfInBounds_toArray, List.set_cons_zero, List.set_cons_succ])
            | (refine Txt.tl_load (v := ?_) (by rfl) (by rfl) (by rfl) (by kernel_rfl) ?_ ?_; rotate_left; (focus (first | assumption | (go_simp; done) | (go_simp; with_reducible rfl))); simp only [Act.put, List.setIfInBounds_toArray, List.set_cons_zero, List.set_cons_succ])
            | (refine Txt.tl_alloc (by rfl) ?_; go_simp; refine ⟨by (first | exact Txt.Le.alloc_drew _ _ | exact Txt.Le.alloc _ _), ?_⟩))
          refine Txt.tl_nil ?_
          go_wp2
          go_roundw
          case rel => exact ⟨k + 1, by omega, rfl, HK.out.drew.drew, take_step x y k u v Hu.out Hv.out HB.out HE.out⟩
          case measure => simp [intOf]; omega
    · obtain rfl : k = 32 := by omega
      have e : x = y := by
        have := HB.out
        rwa [List.take_of_length_le (by rw [Lx.out]; exact Nat.le_refl _), List.take_of_length_le (by rw [Ly.out]; exact Nat.le_refl _)] at this
      have HS : Hid (IdL.cmpL x y = 0) := by show IdL.cmpL x y = 0; rw [e]; exact IdL.cmpL_refl y
      clear e
      go_wp2
      go_ret
      exact ⟨by rw [HS.out]; rfl, HKw.out⟩
end Ids
end Go.Proofs.Ytgllkfolckbdhaa


namespace Go.Proofs.Ytgllkfolckbdhaa
open Go.RowKit
namespace Ids
open Oct
theorem At.first {w : World} {a : Option Addr} {n : Nat} {els : List (List UInt8)} (h : At w a n els) {k : Nat} (hk : k ≤ n) : At w a k (els.take k) := by
  refine ⟨by rw [List.length_take, h.len]; omega, fun x hx => h.size x (List.mem_of_mem_take hx), Nat.le_trans hk h.most, ?_⟩
  rcases h.lay with e | ⟨b, off, e, hb, hr⟩
  · exact .inl (by omega)
  · refine .inr ⟨b, off, e, hb, fun i x hi => hr i x ?_⟩
    rw [List.getElem?_take] at hi
    split at hi
    · exact hi
    · cases hi
theorem At.rest {w : World} {b off n : Nat} {els : List (List UInt8)} (h : At w (some ⟨b, off, none⟩) n els) {k : Nat} (hk : k ≤ n) : At w (some ⟨b, off + k * 32, none⟩) (n - k) (els.drop k) := by
  refine ⟨by rw [List.length_drop, h.len], fun x hx => h.size x (List.mem_of_mem_drop hx), Nat.le_trans (Nat.sub_le _ _) h.most, ?_⟩
  rcases h.lay with e | ⟨b', off', e, hb, hr⟩
  · exact .inl (by omega)
  · cases e
    refine .inr ⟨b, off + k * 32, rfl, hb, fun i x hi => ?_⟩
    rw [List.getElem?_drop] at hi
    have := hr (k + i) x hi
    rwa [show off + (k + i) * 32 = off + k * 32 + i * 32 by omega] at this
theorem At.rest0 {w : World} {a : Option Addr} {n : Nat} {els : List (List UInt8)} (h : At w a n els) (a' : Option Addr) : At w a' 0 (els.drop n) := by
  have e : els.drop n = [] := List.drop_of_length_le (by rw [h.len]; exact Nat.le_refl _)
  rw [e]
  exact ⟨rfl, by simp, Nat.zero_le _, .inl rfl⟩
theorem while_at {p : List UInt8 → Bool} : ∀ (l : List (List UInt8)) (k : Nat), (∀ (j : Nat) (y : List UInt8), j < k → l[j]? = some y → p y = true) → (l.length ≤ k ∨ ∃ y, l[k]? = some y ∧ p y = false) → l.takeWhile p = l.take k ∧ l.dropWhile p = l.drop k
  | [], k, _, _ => by simp
  | x :: l, 0, _, h2 => by
    rcases h2 with h | ⟨y, hy, hp⟩
    · simp at h
    · simp at hy
      subst hy
      simp [hp]
  | x :: l, k + 1, h1, h2 => by
    have hx : p x = true := h1 0 x (by omega) rfl
    obtain ⟨e1, e2⟩ := while_at l k (fun j y hj hy => h1 (j + 1) y (by omega) (by simpa using hy)) (by
      rcases h2 with h | ⟨y, hy, hp⟩
      · exact .inl (by simpa using h)
      · exact .inr ⟨y, by simpa using hy, hp⟩)
    simp [hx, e1, e2]
theorem with_at {l : List (List UInt8)} {x : List UInt8} (hx : x ∉ l) {k : Nat} (h1 : ∀ (j : Nat) (y : List UInt8), j < k → l[j]? = some y → IdL.cmpL y x < 0) (h2 : l.length ≤ k ∨ ∃ y, l[k]? = some y ∧ 0 ≤ IdL.cmpL y x) : l.take k ++ [x] ++ l.drop k = IdL.withL l x := by
  unfold IdL.withL
  rw [if_neg hx]
  obtain ⟨e1, e2⟩ := while_at (p := fun y => decide (IdL.cmpL y x < 0)) l k (fun j y hj hy => decide_eq_true (h1 j y hj hy)) (by
    rcases h2 with h | ⟨y, hy, hp⟩
    · exact .inl h
    · exact .inr ⟨y, hy, decide_eq_false (by omega)⟩)
  rw [e1, e2]
  simp
set_option maxRecDepth 100000 in
set_option maxHeartbeats 2000000 in
theorem xwith_in (w : World) (a : Option Addr) (n c : Nat) (els : List (List UInt8)) (h : At w a n els) (hm : n ≤ 100000) (x : List UInt8) (hx : x.length = 32) (hin : x ∈ els) :
    Calls Try.prog 40 #[.slice a n c, idv x] w fun e w' => e = .returned (.slice a n c) ∧ Keep (fun _ => False) w w' := by
  have Lx : Hid (x.length = 32) := hx
  have hc := xhas_any (w.alloc (.cells (x.map bv).toArray 32)) a n c els (h.calm ((Keep.refl _ _).alloc _)) (by omega) x hx
  rw [decide_eq_true hin] at hc
  have Ra : Hid ((w.alloc (.cells (x.map bv).toArray 32)).rangeAt w.heap.size 0 (x.map bv)) := range_new w _ _
  clear h hx hin
  go_enter Try.func40, Try.ntmps40
  go_wp2_with (first | (refine wl_load rfl rfl rfl Lx.out Ra.out ?_; simp only [Act.put, List.setIfInBounds_toArray, List.set_cons_zero, List.set_cons_succ]) | (go_at_call 18; refine hc.mono ?_; rintro e w1 ⟨rfl, h1⟩; have K1 : Hid (Keep (fun _ => False) (w.alloc (.cells (x.map bv).toArray 32)) w1) := h1; clear h1))
  go_ret
  exact ⟨rfl, ((Keep.refl _ _).alloc _).trans K1.out⟩
end Ids
end Go.Proofs.Ytgllkfolckbdhaa


namespace Go.Proofs.Ytgllkfolckbdhaa
open Go.RowKit
namespace Ids
open Oct
/-- What was made since, and a row that is not of the old. -/
def Grown (w0 w : World) (v : Value) : Prop := Keep (fun _ => False) w0 w ∧ ∀ k, v.ownBlock = some k → w0.heap.size ≤ k
theorem grown_app {w0 w w' : World} {v v' : Value} (h : Keep (fun _ => False) w0 w) (hv : ∀ k, v.ownBlock = some k → w0.heap.size ≤ k) (k : Keep (fun k => v.ownBlock = some k) w w') (ha : v'.ownBlock = v.ownBlock ∨ v'.ownBlock = some w.heap.size) : Grown w0 w' v' := by
  refine ⟨h.trans' k (fun _ _ h => h) (fun k hk e => by have := hv k e; omega), fun k hk => ?_⟩
  rcases ha with e | e
  · exact hv k (e ▸ hk)
  · rw [e] at hk
    have := h.size
    have e' := Option.some.inj hk
    omega
set_option maxRecDepth 100000 in
set_option maxHeartbeats 4000000 in
theorem xwith_out (w : World) (b off n c : Nat) (els : List (List UInt8)) (h : At w (some ⟨b, off, none⟩) n els) (hm : n ≤ 100000) (hnc : n ≤ c) (x : List UInt8) (hx : x.length = 32) (hin : x ∉ els) :
    Calls Try.prog 40 #[.slice (some ⟨b, off, none⟩) n c, idv x] w fun e w' => ∃ v, e = .returned v ∧ New w w' v (IdL.withL els x) := by
  have Lx : Hid (x.length = 32) := hx
  have H : Hid (At w (some ⟨b, off, none⟩) n els) := h
  have HN : Hid (els.length = n) := h.len
  have HI : Hid (x ∉ els) := hin
  have hc := xhas_any (w.alloc (.cells (x.map bv).toArray 32)) _ n c els (h.calm ((Keep.refl _ _).alloc _)) (by omega) x hx
  rw [decide_eq_false hin] at hc
  have Ra : Hid ((w.alloc (.cells (x.map bv).toArray 32)).rangeAt w.heap.size 0 (x.map bv)) := range_new w _ _
  clear h hx hin
  go_enter Try.func40, Try.ntmps40
  go_wp2_with (first | (refine wl_load rfl rfl rfl Lx.out Ra.out ?_; simp only [Act.put, List.setIfInBounds_toArray, List.set_cons_zero, List.set_cons_succ]) | (go_at_call 18; refine hc.mono ?_; rintro e w1 ⟨rfl, h1⟩; have K1 : Hid (Keep (fun _ => False) (w.alloc (.cells (x.map bv).toArray 32)) w1) := h1; clear h1))
  clear hc
  go_loopw [5] (fun i wr => ∃ k : Nat, k ≤ n ∧ i = .int .i64 k ∧ Keep (fun _ => False) (w.alloc (.cells (x.map bv).toArray 32)) wr ∧ (∀ (j : Nat) (y : List UInt8), j < k → els[j]? = some y → IdL.cmpL y x < 0)) (fun i _ => n - (intOf i).toNat)
  case atStart => exact ⟨0, Nat.zero_le _, rfl, K1.out, fun j y hj => absurd hj (Nat.not_lt_zero _)⟩
  case round =>
    obtain ⟨k, hk, rfl, hkp, hb⟩ := hrel
    have HK : Hid (Keep (fun _ => False) (w.alloc (.cells (x.map bv).toArray 32)) wr) := hkp
    have HB : Hid (∀ (j : Nat) (y : List UInt8), j < k → els[j]? = some y → IdL.cmpL y x < 0) := hb
    have HKw : Hid (Keep (fun _ => False) w wr) := ((Keep.refl _ _).alloc _).trans hkp
    have R2 : Hid (wr.rangeAt w.heap.size 0 (x.map bv)) := HK.out.range (by simp) (fun h => h) (range_new w _ _)
    clear hkp hb
    by_cases hlt : k < n
    · obtain ⟨y, hy⟩ : ∃ y, els[k]? = some y := ⟨_, List.getElem?_eq_getElem (by rw [HN.out]; omega)⟩
      obtain ⟨_, _, e, hb1, hr1⟩ : ∃ b' off', (some ⟨b, off, none⟩ : Option Addr) = some ⟨b', off', none⟩ ∧ b' < w.heap.size ∧ ∀ i x, els[i]? = some x → w.rangeAt b' (off' + i * 32) (x.map bv) := by rcases H.out.lay with e | e; omega; exact e
      cases e
      have R1 : Hid (wr.rangeAt b (off + k * 32) (y.map bv)) := HKw.out.range hb1 (fun h => h) (hr1 k y hy)
      have Ly : Hid (y.length = 32) := H.out.size y (List.mem_of_getElem? hy)
      have L1 : Hid ((y.map bv).length = 32) := by show (y.map bv).length = 32; rw [List.length_map, Ly.out]
      have L2 : Hid ((x.map bv).length = 32) := by show (x.map bv).length = 32; rw [List.length_map, Lx.out]
      have Hy : Hid (els[k]? = some y) := hy
      have hc : ∀ W, Calls Try.prog 51 #[idv y, idv x] W fun e w' => e = .returned (.int .i64 (IdL.cmpL y x)) ∧ Keep (fun _ => False) W w' := fun W => xcompare_any W y x Ly.out Lx.out
      obtain ⟨r, hr⟩ : ∃ r, IdL.cmpL y x = r := ⟨_, rfl⟩
      have HR : Hid (IdL.cmpL y x = r) := hr
      rw [hr] at hc
      clear hr1 hy hr
      by_cases hr0 : r < 0
      · go_wp2
        refine Txt.wp_region_text (fun _ => True) [0, 0, 0, 0, 0, 0, 0, 0, 1, 1, 4, 0, 0] (by kernel_rfl) (by kernel_rfl) trivial ?_
        repeat (first
          | (refine Txt.tl_pure (v := ?_) (by rfl) ?_ ?_; rotate_left; (focus (intro _; go_simp; try with_reducible rfl)); simp only [Act.put, List.setIfInBounds_toArray, List.set_cons_zero, List.set_cons_succ])
          | (refine Txt.tl_skip (by rfl) trivial ?_; simp only [Act.put, List.setIfInBounds_toArray, List.set_cons_zero, List.set_cons_succ])
          | (refine Txt.tl_load (v := ?_) (by rfl) (by rfl) (by rfl) (by kernel_rfl) ?_ ?_; rotate_left; (focus (first | assumption | (go_simp; done) | (go_simp; with_reducible rfl))); simp only [Act.put, List.setIfInBounds_toArray, List.set_cons_zero, List.set_cons_succ])
          | (refine Txt.tl_alloc (by rfl) ?_; go_simp; refine ⟨by (first | exact Txt.Le.alloc_drew _ _ | exact Txt.Le.alloc _ _), ?_⟩))
        refine Txt.tl_loadRow (by rfl) (by rfl) (by rfl) R1.out (by rw [L1.out]; kernel_rfl) ?_
        simp only [Act.put, List.setIfInBounds_toArray, List.set_cons_zero, List.set_cons_succ]
        repeat (first
          | (refine Txt.tl_pure (v := ?_) (by rfl) ?_ ?_; rotate_left; (focus (intro _; go_simp; try with_reducible rfl)); simp only [Act.put, List.setIfInBounds_toArray, List.set_cons_zero, List.set_cons_succ])
          | (refine Txt.tl_skip (by rfl) trivial ?_; simp only [Act.put, List.setIfInBounds_toArray, List.set_cons_zero, List.set_cons_succ])
          | (refine Txt.tl_load (v := ?_) (by rfl) (by rfl) (by rfl) (by kernel_rfl) ?_ ?_; rotate_left; (focus (first | assumption | (go_simp; done) | (go_simp; with_reducible rfl))); simp only [Act.put, List.setIfInBounds_toArray, List.set_cons_zero, List.set_cons_succ])
          | (refine Txt.tl_alloc (by rfl) ?_; go_simp; refine ⟨by (first | exact Txt.Le.alloc_drew _ _ | exact Txt.Le.alloc _ _), ?_⟩))
        refine Txt.tl_loadRow (by rfl) (by rfl) (by rfl) R2.out (by rw [L2.out]; kernel_rfl) ?_
        simp only [Act.put, List.setIfInBounds_toArray, List.set_cons_zero, List.set_cons_succ]
        refine Txt.tl_call Try.func51 (by kernel_rfl) (by kernel_rfl) (by rfl) (by rfl) (by rfl) (hc _) ?_
        rintro e w2 ⟨rfl, h2⟩
        have K2 : Hid (Keep (fun _ => False) _ w2) := h2
        clear h2
        refine ⟨_, rfl, trivial, ?_⟩
        simp only [Act.put, List.setIfInBounds_toArray, List.set_cons_zero, List.set_cons_succ]
        (repeat (first | (refine Txt.tl_pure (v := ?_) (by rfl) ?_ ?_; rotate_left; (focus (intro _; go_simp; try with_reducible rfl)); simp only [Act.put, List.setIfInBounds_toArray, List.set_cons_zero, List.set_cons_succ]) | (refine Txt.tl_skip (by rfl) (by first | trivial | exact HS.out) ?_; simp only [Act.put, List.setIfInBounds_toArray, List.set_cons_zero, List.set_cons_succ]) | (refine Txt.tl_load (v := ?_) (by rfl) (by rfl) (by rfl) (by kernel_rfl) ?_ ?_; rotate_left; (focus (first | assumption | (go_simp; done) | (go_simp; with_reducible rfl))); simp only [Act.put, List.setIfInBounds_toArray, List.set_cons_zero, List.set_cons_succ]) | (refine Txt.tl_loadB (v := ?_) (by rfl) (by rfl) (by rfl) (by kernel_rfl) ?_ ?_; rotate_left; (focus assumption); simp only [Act.put, List.setIfInBounds_toArray, List.set_cons_zero, List.set_cons_succ])))
        refine Txt.tl_nil ?_
        go_wp2
        go_roundw
        case rel =>
          refine ⟨k + 1, by omega, rfl, HK.out.drew.trans K2.out, fun j z hj hz => ?_⟩
          rcases Nat.lt_or_ge j k with h1 | h1
          · exact HB.out j z h1 hz
          · obtain rfl : j = k := by omega
            rw [Hy.out] at hz
            rw [← Option.some.inj hz, HR.out]
            exact hr0
        case measure => simp [intOf]; omega
      · go_wp2
        refine Txt.wp_region_text (fun _ => True) [0, 0, 0, 0, 0, 0, 0, 0, 1, 1, 4, 0, 0] (by kernel_rfl) (by kernel_rfl) trivial ?_
        repeat (first
          | (refine Txt.tl_pure (v := ?_) (by rfl) ?_ ?_; rotate_left; (focus (intro _; go_simp; try with_reducible rfl)); simp only [Act.put, List.setIfInBounds_toArray, List.set_cons_zero, List.set_cons_succ])
          | (refine Txt.tl_skip (by rfl) trivial ?_; simp only [Act.put, List.setIfInBounds_toArray, List.set_cons_zero, List.set_cons_succ])
          | (refine Txt.tl_load (v := ?_) (by rfl) (by rfl) (by rfl) (by kernel_rfl) ?_ ?_; rotate_left; (focus (first | assumption | (go_simp; done) | (go_simp; with_reducible rfl))); simp only [Act.put, List.setIfInBounds_toArray, List.set_cons_zero, List.set_cons_succ])
          | (refine Txt.tl_alloc (by rfl) ?_; go_simp; refine ⟨by (first | exact Txt.Le.alloc_drew _ _ | exact Txt.Le.alloc _ _), ?_⟩))
        refine Txt.tl_loadRow (by rfl) (by rfl) (by rfl) R1.out (by rw [L1.out]; kernel_rfl) ?_
        simp only [Act.put, List.setIfInBounds_toArray, List.set_cons_zero, List.set_cons_succ]
        repeat (first
          | (refine Txt.tl_pure (v := ?_) (by rfl) ?_ ?_; rotate_left; (focus (intro _; go_simp; try with_reducible rfl)); simp only [Act.put, List.setIfInBounds_toArray, List.set_cons_zero, List.set_cons_succ])
          | (refine Txt.tl_skip (by rfl) trivial ?_; simp only [Act.put, List.setIfInBounds_toArray, List.set_cons_zero, List.set_cons_succ])
          | (refine Txt.tl_load (v := ?_) (by rfl) (by rfl) (by rfl) (by kernel_rfl) ?_ ?_; rotate_left; (focus (first | assumption | (go_simp; done) | (go_simp; with_reducible rfl))); simp only [Act.put, List.setIfInBounds_toArray, List.set_cons_zero, List.set_cons_succ])
          | (refine Txt.tl_alloc (by rfl) ?_; go_simp; refine ⟨by (first | exact Txt.Le.alloc_drew _ _ | exact Txt.Le.alloc _ _), ?_⟩))
        refine Txt.tl_loadRow (by rfl) (by rfl) (by rfl) R2.out (by rw [L2.out]; kernel_rfl) ?_
        simp only [Act.put, List.setIfInBounds_toArray, List.set_cons_zero, List.set_cons_succ]
        refine Txt.tl_call Try.func51 (by kernel_rfl) (by kernel_rfl) (by rfl) (by rfl) (by rfl) (hc _) ?_
        rintro e w2 ⟨rfl, h2⟩
        have K2 : Hid (Keep (fun _ => False) _ w2) := h2
        clear h2
        refine ⟨_, rfl, trivial, ?_⟩
        simp only [Act.put, List.setIfInBounds_toArray, List.set_cons_zero, List.set_cons_succ]
        (repeat (first | (refine Txt.tl_pure (v := ?_) (by rfl) ?_ ?_; rotate_left; (focus (intro _; go_simp; try with_reducible rfl)); simp only [Act.put, List.setIfInBounds_toArray, List.set_cons_zero, List.set_cons_succ]) | (refine Txt.tl_skip (by rfl) (by first | trivial | exact HS.out) ?_; simp only [Act.put, List.setIfInBounds_toArray, List.set_cons_zero, List.set_cons_succ]) | (refine Txt.tl_load (v := ?_) (by rfl) (by rfl) (by rfl) (by kernel_rfl) ?_ ?_; rotate_left; (focus (first | assumption | (go_simp; done) | (go_simp; with_reducible rfl))); simp only [Act.put, List.setIfInBounds_toArray, List.set_cons_zero, List.set_cons_succ]) | (refine Txt.tl_loadB (v := ?_) (by rfl) (by rfl) (by rfl) (by kernel_rfl) ?_ ?_; rotate_left; (focus assumption); simp only [Act.put, List.setIfInBounds_toArray, List.set_cons_zero, List.set_cons_succ])))
        refine Txt.tl_nil ?_
        have KZ : Hid (Keep (fun _ => False) (w.alloc (.cells (x.map bv).toArray 32)) w2) := HK.out.drew.trans K2.out
        have HE : Hid (els.length ≤ k ∨ ∃ y, els[k]? = some y ∧ 0 ≤ IdL.cmpL y x) := .inr ⟨y, Hy.out, by rw [HR.out]; omega⟩
        have AT1 : Hid (At w2 (some ⟨b, off, none⟩) k (els.take k)) := (H.out.calm (((Keep.refl _ _).alloc _).trans KZ.out)).first (by omega)
        first | (have hkc : k ≤ c := by omega) | skip
        go_wp2_with (first | (refine wl_build0 rfl rfl ?_; intro h0; have O0 : Hid _ := h0; clear h0; simp only [Act.put, List.setIfInBounds_toArray, List.set_cons_zero, List.set_cons_succ]) | (refine wl_appR rfl rfl rfl O0.out rfl (AT1.out.calm ((Keep.refl _ _).alloc _)) (by simp; omega) ?_; intro v1 w3 h1 h2 h3; have O1 : Hid (Own w3 v1 (els.take k)) := h1; have G3 : Hid (Grown (w.alloc (.cells (x.map bv).toArray 32)) w3 v1) := grown_app (w0 := w.alloc (.cells (x.map bv).toArray 32)) (KZ.out.alloc _) (fun k hk => by have := KZ.out.size; have e := Option.some.inj hk; simp at e this ⊢; omega) h2 h3; clear h1 h2 h3; simp only [Act.put, List.setIfInBounds_toArray, List.set_cons_zero, List.set_cons_succ]) | (refine wl_load rfl rfl rfl Lx.out (G3.out.1.range (by simp) (fun h => h) (range_new w _ _)) ?_; simp only [Act.put, List.setIfInBounds_toArray, List.set_cons_zero, List.set_cons_succ]) | (refine wl_build rfl rfl Lx.out rfl ?_; simp only [Act.put, List.setIfInBounds_toArray, List.set_cons_zero, List.set_cons_succ]) | (refine wl_app1 rfl rfl rfl (O1.out.keep ((Keep.refl (fun _ => False) _).alloc _) (fun _ _ h => h)) rfl Lx.out (heap_alloc_new w3 _) (by simp; omega) ?_; intro v2 w4 h1 h2 h3; have O2 : Hid (Own w4 v2 (els.take k ++ [x])) := h1; have G4 : Hid (Grown (w.alloc (.cells (x.map bv).toArray 32)) w4 v2) := grown_app (w0 := w.alloc (.cells (x.map bv).toArray 32)) (G3.out.1.alloc _) G3.out.2 h2 h3; clear h1 h2 h3; simp only [Act.put, List.setIfInBounds_toArray, List.set_cons_zero, List.set_cons_succ]) | (refine wl_appR rfl rfl rfl O2.out rfl ((H.out.calm (((Keep.refl _ _).alloc _).trans G4.out.1)).rest (by omega)) (by simp; omega) ?_; intro v3 w5 h1 h2 h3; have O3 : Hid (Own w5 v3 (els.take k ++ [x] ++ els.drop k)) := h1; have G5 : Hid (Grown (w.alloc (.cells (x.map bv).toArray 32)) w5 v3) := grown_app (w0 := w.alloc (.cells (x.map bv).toArray 32)) G4.out.1 G4.out.2 h2 h3; clear h1 h2 h3; simp only [Act.put, List.setIfInBounds_toArray, List.set_cons_zero, List.set_cons_succ]) | (refine wl_appR rfl rfl rfl O2.out rfl ((H.out.calm (((Keep.refl _ _).alloc _).trans G4.out.1)).rest0 _) (by simp; omega) ?_; intro v3 w5 h1 h2 h3; have O3 : Hid (Own w5 v3 (els.take k ++ [x] ++ els.drop k)) := h1; have G5 : Hid (Grown (w.alloc (.cells (x.map bv).toArray 32)) w5 v3) := grown_app (w0 := w.alloc (.cells (x.map bv).toArray 32)) G4.out.1 G4.out.2 h2 h3; clear h1 h2 h3; simp only [Act.put, List.setIfInBounds_toArray, List.set_cons_zero, List.set_cons_succ]))
        go_ret
        refine ⟨_, rfl, ?_, ((Keep.refl _ _).alloc _).trans G5.out.1, fun k hk => by have := G5.out.2 k hk; simp at this; omega⟩
        rw [← with_at HI.out HB.out HE.out]
        exact O3.out
    · obtain rfl : k = n := by omega
      go_wp2
      refine Txt.wp_region_text (fun _ => True) [0, 0, 0, 0, 0, 0, 0, 0, 1, 1, 4, 0, 0] (by kernel_rfl) (by kernel_rfl) trivial ?_
      (repeat (first | (refine Txt.tl_pure (v := ?_) (by rfl) ?_ ?_; rotate_left; (focus (intro _; go_simp; try with_reducible rfl)); simp only [Act.put, List.setIfInBounds_toArray, List.set_cons_zero, List.set_cons_succ]) | (refine Txt.tl_skip (by rfl) (by first | trivial | exact HS.out) ?_; simp only [Act.put, List.setIfInBounds_toArray, List.set_cons_zero, List.set_cons_succ]) | (refine Txt.tl_load (v := ?_) (by rfl) (by rfl) (by rfl) (by kernel_rfl) ?_ ?_; rotate_left; (focus (first | assumption | (go_simp; done) | (go_simp; with_reducible rfl))); simp only [Act.put, List.setIfInBounds_toArray, List.set_cons_zero, List.set_cons_succ]) | (refine Txt.tl_loadB (v := ?_) (by rfl) (by rfl) (by rfl) (by kernel_rfl) ?_ ?_; rotate_left; (focus assumption); simp only [Act.put, List.setIfInBounds_toArray, List.set_cons_zero, List.set_cons_succ])))
      refine Txt.tl_nil ?_
      have KZ : Hid (Keep (fun _ => False) (w.alloc (.cells (x.map bv).toArray 32)) wr.drew) := HK.out.drew
      have HE : Hid (els.length ≤ k ∨ ∃ y, els[k]? = some y ∧ 0 ≤ IdL.cmpL y x) := .inl (by rw [HN.out]; omega)
      rcases Nat.lt_or_ge k c with hck | hck
      · have hck' : 0 < c - k := by omega
        have AT1 : Hid (At wr.drew (some ⟨b, off, none⟩) k (els.take k)) := (H.out.calm (((Keep.refl _ _).alloc _).trans KZ.out)).first (by omega)
        first | (have hkc : k ≤ c := by omega) | skip
        go_wp2_with (first | (refine wl_build0 rfl rfl ?_; intro h0; have O0 : Hid _ := h0; clear h0; simp only [Act.put, List.setIfInBounds_toArray, List.set_cons_zero, List.set_cons_succ]) | (refine wl_appR rfl rfl rfl O0.out rfl (AT1.out.calm ((Keep.refl _ _).alloc _)) (by simp; omega) ?_; intro v1 w3 h1 h2 h3; have O1 : Hid (Own w3 v1 (els.take k)) := h1; have G3 : Hid (Grown (w.alloc (.cells (x.map bv).toArray 32)) w3 v1) := grown_app (w0 := w.alloc (.cells (x.map bv).toArray 32)) (KZ.out.alloc _) (fun k hk => by have := KZ.out.size; have e := Option.some.inj hk; simp at e this ⊢; omega) h2 h3; clear h1 h2 h3; simp only [Act.put, List.setIfInBounds_toArray, List.set_cons_zero, List.set_cons_succ]) | (refine wl_load rfl rfl rfl Lx.out (G3.out.1.range (by simp) (fun h => h) (range_new w _ _)) ?_; simp only [Act.put, List.setIfInBounds_toArray, List.set_cons_zero, List.set_cons_succ]) | (refine wl_build rfl rfl Lx.out rfl ?_; simp only [Act.put, List.setIfInBounds_toArray, List.set_cons_zero, List.set_cons_succ]) | (refine wl_app1 rfl rfl rfl (O1.out.keep ((Keep.refl (fun _ => False) _).alloc _) (fun _ _ h => h)) rfl Lx.out (heap_alloc_new w3 _) (by simp; omega) ?_; intro v2 w4 h1 h2 h3; have O2 : Hid (Own w4 v2 (els.take k ++ [x])) := h1; have G4 : Hid (Grown (w.alloc (.cells (x.map bv).toArray 32)) w4 v2) := grown_app (w0 := w.alloc (.cells (x.map bv).toArray 32)) (G3.out.1.alloc _) G3.out.2 h2 h3; clear h1 h2 h3; simp only [Act.put, List.setIfInBounds_toArray, List.set_cons_zero, List.set_cons_succ]) | (refine wl_appR rfl rfl rfl O2.out rfl ((H.out.calm (((Keep.refl _ _).alloc _).trans G4.out.1)).rest (by omega)) (by simp; omega) ?_; intro v3 w5 h1 h2 h3; have O3 : Hid (Own w5 v3 (els.take k ++ [x] ++ els.drop k)) := h1; have G5 : Hid (Grown (w.alloc (.cells (x.map bv).toArray 32)) w5 v3) := grown_app (w0 := w.alloc (.cells (x.map bv).toArray 32)) G4.out.1 G4.out.2 h2 h3; clear h1 h2 h3; simp only [Act.put, List.setIfInBounds_toArray, List.set_cons_zero, List.set_cons_succ]) | (refine wl_appR rfl rfl rfl O2.out rfl ((H.out.calm (((Keep.refl _ _).alloc _).trans G4.out.1)).rest0 _) (by simp; omega) ?_; intro v3 w5 h1 h2 h3; have O3 : Hid (Own w5 v3 (els.take k ++ [x] ++ els.drop k)) := h1; have G5 : Hid (Grown (w.alloc (.cells (x.map bv).toArray 32)) w5 v3) := grown_app (w0 := w.alloc (.cells (x.map bv).toArray 32)) G4.out.1 G4.out.2 h2 h3; clear h1 h2 h3; simp only [Act.put, List.setIfInBounds_toArray, List.set_cons_zero, List.set_cons_succ]))
        go_ret
        refine ⟨_, rfl, ?_, ((Keep.refl _ _).alloc _).trans G5.out.1, fun k hk => by have := G5.out.2 k hk; simp at this; omega⟩
        rw [← with_at HI.out HB.out HE.out]
        exact O3.out
      · obtain rfl : k = c := by omega
        have AT1 : Hid (At wr.drew (some ⟨b, off, none⟩) k (els.take k)) := (H.out.calm (((Keep.refl _ _).alloc _).trans KZ.out)).first (by omega)
        first | (have hkc : k ≤ c := by omega) | skip
        go_wp2_with (first | (refine wl_build0 rfl rfl ?_; intro h0; have O0 : Hid _ := h0; clear h0; simp only [Act.put, List.setIfInBounds_toArray, List.set_cons_zero, List.set_cons_succ]) | (refine wl_appR rfl rfl rfl O0.out rfl (AT1.out.calm ((Keep.refl _ _).alloc _)) (by simp; omega) ?_; intro v1 w3 h1 h2 h3; have O1 : Hid (Own w3 v1 (els.take k)) := h1; have G3 : Hid (Grown (w.alloc (.cells (x.map bv).toArray 32)) w3 v1) := grown_app (w0 := w.alloc (.cells (x.map bv).toArray 32)) (KZ.out.alloc _) (fun k hk => by have := KZ.out.size; have e := Option.some.inj hk; simp at e this ⊢; omega) h2 h3; clear h1 h2 h3; simp only [Act.put, List.setIfInBounds_toArray, List.set_cons_zero, List.set_cons_succ]) | (refine wl_load rfl rfl rfl Lx.out (G3.out.1.range (by simp) (fun h => h) (range_new w _ _)) ?_; simp only [Act.put, List.setIfInBounds_toArray, List.set_cons_zero, List.set_cons_succ]) | (refine wl_build rfl rfl Lx.out rfl ?_; simp only [Act.put, List.setIfInBounds_toArray, List.set_cons_zero, List.set_cons_succ]) | (refine wl_app1 rfl rfl rfl (O1.out.keep ((Keep.refl (fun _ => False) _).alloc _) (fun _ _ h => h)) rfl Lx.out (heap_alloc_new w3 _) (by simp; omega) ?_; intro v2 w4 h1 h2 h3; have O2 : Hid (Own w4 v2 (els.take k ++ [x])) := h1; have G4 : Hid (Grown (w.alloc (.cells (x.map bv).toArray 32)) w4 v2) := grown_app (w0 := w.alloc (.cells (x.map bv).toArray 32)) (G3.out.1.alloc _) G3.out.2 h2 h3; clear h1 h2 h3; simp only [Act.put, List.setIfInBounds_toArray, List.set_cons_zero, List.set_cons_succ]) | (refine wl_appR rfl rfl rfl O2.out rfl ((H.out.calm (((Keep.refl _ _).alloc _).trans G4.out.1)).rest (by omega)) (by simp; omega) ?_; intro v3 w5 h1 h2 h3; have O3 : Hid (Own w5 v3 (els.take k ++ [x] ++ els.drop k)) := h1; have G5 : Hid (Grown (w.alloc (.cells (x.map bv).toArray 32)) w5 v3) := grown_app (w0 := w.alloc (.cells (x.map bv).toArray 32)) G4.out.1 G4.out.2 h2 h3; clear h1 h2 h3; simp only [Act.put, List.setIfInBounds_toArray, List.set_cons_zero, List.set_cons_succ]) | (refine wl_appR rfl rfl rfl O2.out rfl ((H.out.calm (((Keep.refl _ _).alloc _).trans G4.out.1)).rest0 _) (by simp; omega) ?_; intro v3 w5 h1 h2 h3; have O3 : Hid (Own w5 v3 (els.take k ++ [x] ++ els.drop k)) := h1; have G5 : Hid (Grown (w.alloc (.cells (x.map bv).toArray 32)) w5 v3) := grown_app (w0 := w.alloc (.cells (x.map bv).toArray 32)) G4.out.1 G4.out.2 h2 h3; clear h1 h2 h3; simp only [Act.put, List.setIfInBounds_toArray, List.set_cons_zero, List.set_cons_succ]))
        go_ret
        refine ⟨_, rfl, ?_, ((Keep.refl _ _).alloc _).trans G5.out.1, fun k hk => by have := G5.out.2 k hk; simp at this; omega⟩
        rw [← with_at HI.out HB.out HE.out]
        exact O3.out
end Ids
end Go.Proofs.Ytgllkfolckbdhaa


namespace Go.Proofs.Ytgllkfolckbdhaa
open Go.RowKit
namespace Ids
open Oct
theorem At.nil (w : World) (a : Option Addr) : At w a 0 [] := ⟨rfl, by simp, Nat.zero_le _, .inl rfl⟩
set_option maxRecDepth 100000 in
set_option maxHeartbeats 4000000 in
theorem xwith_nil (w : World) (x : List UInt8) (hx : x.length = 32) :
    Calls Try.prog 40 #[.slice none 0 0, idv x] w fun e w' => ∃ v, e = .returned v ∧ New w w' v (IdL.withL [] x) := by
  have Lx : Hid (x.length = 32) := hx
  have hc := xhas_any (w.alloc (.cells (x.map bv).toArray 32)) none 0 0 [] (At.nil _ _) (by omega) x hx
  rw [decide_eq_false (by simp)] at hc
  have Ra : Hid ((w.alloc (.cells (x.map bv).toArray 32)).rangeAt w.heap.size 0 (x.map bv)) := range_new w _ _
  clear hx
  go_enter Try.func40, Try.ntmps40
  go_wp2_with (first | (refine wl_load rfl rfl rfl Lx.out Ra.out ?_; simp only [Act.put, List.setIfInBounds_toArray, List.set_cons_zero, List.set_cons_succ]) | (go_at_call 18; refine hc.mono ?_; rintro e w1 ⟨rfl, h1⟩; have K1 : Hid (Keep (fun _ => False) (w.alloc (.cells (x.map bv).toArray 32)) w1) := h1; clear h1))
  clear hc
  go_loopw [5] (fun i wr => i = .int .i64 0 ∧ Keep (fun _ => False) (w.alloc (.cells (x.map bv).toArray 32)) wr) (fun i _ => 0)
  case atStart => exact ⟨rfl, K1.out⟩
  case round =>
    obtain ⟨rfl, hkp⟩ := hrel
    have KZ : Hid (Keep (fun _ => False) (w.alloc (.cells (x.map bv).toArray 32)) wr.drew) := hkp.drew
    clear hkp
    go_wp2
    refine Txt.wp_region_text (fun _ => True) [0, 0, 0, 0, 0, 0, 0, 0, 1, 1, 4, 0, 0] (by kernel_rfl) (by kernel_rfl) trivial ?_
    (repeat (first | (refine Txt.tl_pure (v := ?_) (by rfl) ?_ ?_; rotate_left; (focus (intro _; go_simp; try with_reducible rfl)); simp only [Act.put, List.setIfInBounds_toArray, List.set_cons_zero, List.set_cons_succ]) | (refine Txt.tl_skip (by rfl) (by first | trivial | exact HS.out) ?_; simp only [Act.put, List.setIfInBounds_toArray, List.set_cons_zero, List.set_cons_succ]) | (refine Txt.tl_load (v := ?_) (by rfl) (by rfl) (by rfl) (by kernel_rfl) ?_ ?_; rotate_left; (focus (first | assumption | (go_simp; done) | (go_simp; with_reducible rfl))); simp only [Act.put, List.setIfInBounds_toArray, List.set_cons_zero, List.set_cons_succ]) | (refine Txt.tl_loadB (v := ?_) (by rfl) (by rfl) (by rfl) (by kernel_rfl) ?_ ?_; rotate_left; (focus assumption); simp only [Act.put, List.setIfInBounds_toArray, List.set_cons_zero, List.set_cons_succ])))
    refine Txt.tl_nil ?_
    go_wp2_with (first | (refine wl_build0 rfl rfl ?_; intro h0; have O0 : Hid _ := h0; clear h0; simp only [Act.put, List.setIfInBounds_toArray, List.set_cons_zero, List.set_cons_succ]) | (refine wl_appR rfl rfl rfl O0.out rfl (At.nil _ _) (by simp) ?_; intro v1 w3 h1 h2 h3; have O1 : Hid (Own w3 v1 []) := h1; have G3 : Hid (Grown (w.alloc (.cells (x.map bv).toArray 32)) w3 v1) := grown_app (w0 := w.alloc (.cells (x.map bv).toArray 32)) (KZ.out.alloc _) (fun k hk => by have := KZ.out.size; have e := Option.some.inj hk; simp at e this ⊢; omega) h2 h3; clear h1 h2 h3; simp only [Act.put, List.setIfInBounds_toArray, List.set_cons_zero, List.set_cons_succ]) | (refine wl_load rfl rfl rfl Lx.out (G3.out.1.range (by simp) (fun h => h) (range_new w _ _)) ?_; simp only [Act.put, List.setIfInBounds_toArray, List.set_cons_zero, List.set_cons_succ]) | (refine wl_build rfl rfl Lx.out rfl ?_; simp only [Act.put, List.setIfInBounds_toArray, List.set_cons_zero, List.set_cons_succ]) | (refine wl_app1 rfl rfl rfl (O1.out.keep ((Keep.refl (fun _ => False) _).alloc _) (fun _ _ h => h)) rfl Lx.out (heap_alloc_new w3 _) (by simp) ?_; intro v2 w4 h1 h2 h3; have O2 : Hid (Own w4 v2 [x]) := h1; have G4 : Hid (Grown (w.alloc (.cells (x.map bv).toArray 32)) w4 v2) := grown_app (w0 := w.alloc (.cells (x.map bv).toArray 32)) (G3.out.1.alloc _) G3.out.2 h2 h3; clear h1 h2 h3; simp only [Act.put, List.setIfInBounds_toArray, List.set_cons_zero, List.set_cons_succ]) | (refine wl_appR rfl rfl rfl O2.out rfl (At.nil _ _) (by simp) ?_; intro v3 w5 h1 h2 h3; have O3 : Hid (Own w5 v3 [x]) := h1; have G5 : Hid (Grown (w.alloc (.cells (x.map bv).toArray 32)) w5 v3) := grown_app (w0 := w.alloc (.cells (x.map bv).toArray 32)) G4.out.1 G4.out.2 h2 h3; clear h1 h2 h3; simp only [Act.put, List.setIfInBounds_toArray, List.set_cons_zero, List.set_cons_succ]))
    go_ret
    exact ⟨_, rfl, O3.out, ((Keep.refl _ _).alloc _).trans G5.out.1, fun k hk => by have := G5.out.2 k hk; simp at this; omega⟩
end Ids
end Go.Proofs.Ytgllkfolckbdhaa


namespace Go.Proofs.Ytgllkfolckbdhaa
open Go.RowKit
namespace Ids
open Oct
/-- With, of a row of one's own. -/
theorem xwith_own (w : World) (v : Value) (els : List (List UInt8)) (h : Own w v els) (hm : els.length ≤ 100000) (x : List UInt8) (hx : x.length = 32) :
    Calls Try.prog 40 #[v, idv x] w fun e w' => ∃ v', e = .returned v' ∧ Own w' v' (IdL.withL els x) ∧ Keep (fun _ => False) w w' ∧ (v' = v ∨ ∀ k, v'.ownBlock = some k → w.heap.size ≤ k) := by
  rcases h.form with ⟨rfl, rfl⟩ | ⟨g, c, rfl⟩
  · refine (xwith_nil w x hx).mono ?_
    rintro e w' ⟨v, rfl, h1, h2, h3⟩
    exact ⟨v, rfl, h1, h2, .inr h3⟩
  · obtain ⟨a, c', e, hat, _⟩ := h.at
    cases e
    by_cases hin : x ∈ els
    · refine (xwith_in w _ _ c els hat hm x hx hin).mono ?_
      rintro e w' ⟨rfl, h1⟩
      refine ⟨_, rfl, ?_, h1, .inl rfl⟩
      unfold IdL.withL
      rw [if_pos hin]
      exact h.keep h1 (fun _ _ h => h)
    · refine (xwith_out w g 0 _ c els hat hm h.block.2.choose_spec.2.1 x hx hin).mono ?_
      rintro e w' ⟨v, rfl, h1, h2, h3⟩
      exact ⟨v, rfl, h1, h2, .inr h3⟩
end Ids
end Go.Proofs.Ytgllkfolckbdhaa


namespace Go.Proofs.Ytgllkfolckbdhaa
open Go.RowKit
namespace Ids
open Oct
set_option maxRecDepth 100000 in
set_option maxHeartbeats 2000000 in
theorem xset_any (w : World) (a : Option Addr) (n c : Nat) (els : List (List UInt8)) (h : At w a n els) (hm : n ≤ 100000) :
    Calls Try.prog 20 #[.slice a n c] w fun e w' => ∃ v, e = .returned v ∧ New w w' v (IdL.setL els) := by
  have H : Hid (At w a n els) := h
  have HN : Hid (els.length = n) := h.len
  clear h
  go_enter Try.func20, Try.ntmps20
  go_wp2
  go_loopw [3, 4] (fun s3 s4 wr => ∃ k : Nat, k ≤ n ∧ s4 = .int .i64 k ∧ New w wr s3 (IdL.setL (els.take k))) (fun _ s4 _ => n - (intOf s4).toNat)
  case atStart => exact ⟨0, Nat.zero_le _, rfl, Own.nil w, Keep.refl _ _, fun k hk => by simp [Value.ownBlock] at hk⟩
  case round =>
    obtain ⟨k, hk, rfl, hnw⟩ := hrel
    have NW : Hid (New w wr u3 (IdL.setL (els.take k))) := hnw
    clear hnw
    by_cases hlt : k < n
    · obtain ⟨x, hx⟩ : ∃ x, els[k]? = some x := ⟨_, List.getElem?_eq_getElem (by rw [HN.out]; omega)⟩
      obtain ⟨b1, o1, rfl, hb1, hr1⟩ : ∃ b off, a = some ⟨b, off, none⟩ ∧ b < w.heap.size ∧ ∀ i x, els[i]? = some x → w.rangeAt b (off + i * 32) (x.map bv) := by rcases H.out.lay with e | e; omega; exact e
      have R1 : Hid (wr.rangeAt b1 (o1 + k * 32) (x.map bv)) := NW.out.2.1.range hb1 (fun h => h) (hr1 k x hx)
      have Lx : Hid (x.length = 32) := H.out.size x (List.mem_of_getElem? hx)
      have Hx : Hid (els[k]? = some x) := hx
      have Hl : Hid ((IdL.setL (els.take k)).length ≤ 100000) := Nat.le_trans (IdL.setL_len _) (by rw [List.length_take]; omega)
      clear hr1 hx
      go_wp2_with (first | (refine wl_load rfl rfl rfl Lx.out R1.out ?_; simp only [Act.put, List.setIfInBounds_toArray, List.set_cons_zero, List.set_cons_succ]) | (go_at_call 40; refine (xwith_own wr u3 _ NW.out.1 Hl.out x Lx.out).mono ?_; rintro e w2 ⟨v2, rfl, h1, h2, h3⟩; have O2 : Hid (Own w2 v2 (IdL.withL (IdL.setL (els.take k)) x)) := h1; have K2 : Hid (Keep (fun _ => False) wr w2) := h2; have A2 : Hid (v2 = u3 ∨ ∀ k, v2.ownBlock = some k → wr.heap.size ≤ k) := h3; clear h1 h2 h3))
      go_roundw
      case rel =>
        refine ⟨k + 1, by omega, rfl, ?_, NW.out.2.1.trans K2.out, fun b hb => ?_⟩
        · rw [IdL.take_snoc Hx.out, IdL.setL_snoc]
          exact O2.out
        · rcases A2.out with e | e
          · exact NW.out.2.2 b (by rw [← e]; exact hb)
          · have := e b hb
            have := NW.out.2.1.size
            omega
      case measure => simp [intOf]; omega
    · obtain rfl : k = n := by omega
      have e : els.take k = els := List.take_of_length_le (by rw [HN.out]; exact Nat.le_refl _)
      have NW2 : Hid (New w wr u3 (IdL.setL els)) := by show New w wr u3 (IdL.setL els); have := NW.out; rwa [e] at this
      clear e
      go_wp2
      go_ret
      exact ⟨_, rfl, NW2.out⟩
end Ids
end Go.Proofs.Ytgllkfolckbdhaa


namespace Go.Proofs.Ytgllkfolckbdhaa
open Go.RowKit
namespace Ids
open Oct
end Ids
end Go.Proofs.Ytgllkfolckbdhaa


namespace Go.Proofs.Ytgllkfolckbdhaa
open Go.RowKit
namespace Ids
open Oct
end Ids
end Go.Proofs.Ytgllkfolckbdhaa


namespace Go.Proofs.Ytgllkfolckbdhaa
open Go.RowKit
namespace Ids
open Oct
end Ids
end Go.Proofs.Ytgllkfolckbdhaa


namespace Go.Proofs.Ytgllkfolckbdhaa
open Go.RowKit
namespace Ids
open Oct
end Ids
end Go.Proofs.Ytgllkfolckbdhaa
