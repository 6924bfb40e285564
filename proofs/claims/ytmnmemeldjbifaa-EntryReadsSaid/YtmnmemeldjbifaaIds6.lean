/-
  msg's list: the ids that a reader reads.
-/
import Derived.Test.YtmnmemeldjbifaaIds5
import Derived.Test.YtmnmemeldjbifaaRd3
set_option linter.unusedVariables false
set_option linter.unusedSimpArgs false
namespace Go.Proofs.Ytmnmemeldjbifaa
open Go.RowKit
namespace Ids
open Oct

/-- The ids that are read, where the reader stands, its error. -/
def rdIds (s : ByteArray) (a : Nat) (b : Int) : Nat → List (List UInt8) × Nat × Int
  | 0 => ([], a, b)
  | k + 1 => ((rdIds s a b k).1 ++ [pad (rraw s (rdIds s a b k).2.1 (rdIds s a b k).2.2 32).1.data.toList], (rraw s (rdIds s a b k).2.1 (rdIds s a b k).2.2 32).2.1, (rraw s (rdIds s a b k).2.1 (rdIds s a b k).2.2 32).2.2)
theorem rdIds_step {s : ByteArray} {a1 : Nat} {b1 : Int} {k : Nat} {l : List (List UInt8)} {a : Nat} {b : Int} {x : ByteArray} {a' : Nat} {b' : Int} (h : rdIds s a1 b1 k = (l, a, b)) (hx : rraw s a b 32 = (x, a', b')) :
    rdIds s a1 b1 (k + 1) = (l ++ [pad x.data.toList], a', b') := by
  unfold rdIds
  rw [h]
  simp only
  rw [hx]
theorem rdIds_len (s : ByteArray) (a : Nat) (b : Int) : ∀ k, (rdIds s a b k).1.length = k
  | 0 => rfl
  | k + 1 => by simp [rdIds, rdIds_len s a b k]
theorem rraw_32 (s : ByteArray) (a : Nat) (b : Int) : (rraw s a b 32).1.size ≤ 32 := by
  unfold rraw
  split
  · exact Nat.zero_le _
  · split
    · exact Nat.zero_le _
    · split
      · exact Nat.zero_le _
      · rw [ByteArray.size_extract]; omega
theorem rraw_v (w : World) (b : Nat) (s : ByteArray) (at_ : Nat) (bad n : Int) (x : ByteArray) (a' : Nat) (b' : Int) (h : IsR w b s at_ bad) (hv : rraw s at_ bad n = (x, a', b')) : Calls Try.prog 69 #[.pointer (some ⟨b, 0, none⟩), .int .i64 n] w fun e w' =>
    e = .returned (.string x) ∧ IsR w' b s a' b' ∧ Keep (fun k => k = b) w w' := by
  have := rraw_any w b s at_ bad n h
  rw [hv] at this
  exact this
theorem rnum_v (w : World) (b : Nat) (s : ByteArray) (at_ : Nat) (bad k : Int) (n a' : Nat) (b' : Int) (h : IsR w b s at_ bad) (hv : rnum s at_ bad k = (n, a', b')) :
    Calls Try.prog 33 #[.pointer (some ⟨b, 0, none⟩), .int .i64 k] w fun e w' =>
    e = .returned (.int .i64 n) ∧ IsR w' b s a' b' ∧ Keep (fun k => k = b) w w' := by
  have := rnum_any w b s at_ bad k h
  rw [hv] at this
  exact this
theorem rnum1_lt (s : ByteArray) (a : Nat) (b : Int) : (rnum s a b 1).1 < 256 := by
  unfold rnum
  split
  · exact (by decide : 0 < 256)
  · split
    · exact (by decide : 0 < 256)
    · refine Nat.lt_of_lt_of_le (natOf_lt _) (Nat.le_trans (Nat.pow_le_pow_right (by omega) (show (rraw s a 0 1).1.data.toList.length ≤ 1 from ?_)) (by decide))
      rw [Array.length_toList]
      show (rraw s a 0 1).1.size ≤ 1
      unfold rraw
      split
      · exact Nat.zero_le _
      · split
        · exact Nat.zero_le _
        · split
          · exact Nat.zero_le _
          · rw [ByteArray.size_extract]; omega
set_option maxRecDepth 100000 in
set_option maxHeartbeats 1000000 in
theorem list_any (w : World) (b : Nat) (s : ByteArray) (at_ : Nat) (bad : Int) (n a1 : Nat) (b1 : Int) (h : IsR w b s at_ bad) (hv : rnum s at_ bad 1 = (n, a1, b1)) :
    Calls Try.prog 36 #[.pointer (some ⟨b, 0, none⟩)] w fun e w' => ∃ v, e = .returned v ∧ Own w' v (rdIds s a1 b1 n).1 ∧ IsR w' b s (rdIds s a1 b1 n).2.1 (rdIds s a1 b1 n).2.2 ∧ Keep (fun k => k = b) w w' ∧ (∀ k, v.ownBlock = some k → w.heap.size ≤ k) := by
  have hn : n < 256 := by have := rnum1_lt s at_ bad; rw [hv] at this; exact this
  have H : Hid _ := h
  have Hv : Hid _ := hv
  clear h hv
  go_enter Try.func36, Try.ntmps36
  go_wp2_with (first | (go_at_call 33; refine (rnum_v _ _ s at_ bad 1 n a1 b1 H.out Hv.out).mono ?_; rintro e w1 ⟨rfl, h1, k1⟩; have H1 : Hid _ := h1; have K1 : Hid _ := k1; clear h1 k1))
  have hbw : b < w.heap.size := lt_of_block H.out.blk
  go_loopw [3, 7] (fun o i wr => ∃ (k : Nat) (v : Value), k ≤ n ∧ i = .int .i64 k ∧ o = v ∧ Own wr v (rdIds s a1 b1 k).1 ∧ IsR wr b s (rdIds s a1 b1 k).2.1 (rdIds s a1 b1 k).2.2 ∧ Keep (fun k => k = b) w wr ∧ (∀ y, v.ownBlock = some y → w.heap.size ≤ y)) (fun _ i _ => n - (intOf i).toNat)
  case atStart => exact ⟨0, _, Nat.zero_le _, rfl, rfl, Own.nil _, H1.out, K1.out, fun y hy => by simp [Value.ownBlock] at hy⟩
  case round =>
    obtain ⟨k, o, hk, rfl, ho, h1, h2, h3, h4⟩ := hrel
    replace ho := ho.symm
    subst ho
    have HO : Hid _ := h1
    have HR : Hid _ := h2
    have HK : Hid _ := h3
    have HN : Hid _ := h4
    clear h1 h2 h3 h4
    by_cases hlt : k < n
    · obtain ⟨p, hp⟩ : ∃ p, rdIds s a1 b1 k = p := ⟨_, rfl⟩
      obtain ⟨l, a, bb⟩ := p
      obtain ⟨q, hq⟩ : ∃ q, rraw s a bb 32 = q := ⟨_, rfl⟩
      obtain ⟨x, a', b'⟩ := q
      have hx : x.size ≤ 32 := by have := rraw_32 s a bb; rw [hq] at this; exact this
      have hll : l.length = k := by have := rdIds_len s a1 b1 k; rw [hp] at this; exact this
      have HS : Hid _ := rdIds_step hp hq
      have Hq : Hid _ := hq
      have HO : Hid (Own wr o l) := by have := HO.out; rw [hp] at this; exact this
      have HR : Hid (IsR wr b s a bb) := by have := HR.out; rw [hp] at this; exact this
      have Hpl : Hid _ := pad_len x.data.toList (by rw [Array.length_toList]; exact hx)
      have hbr : b < wr.heap.size := lt_of_block HR.out.blk
      clear hp hq
      go_wp2
      refine Txt.wp_region_text (fun _ => True) [0, 0, 4, 4] (by kernel_rfl) (by kernel_rfl) trivial ?_
      repeat (first
        | (refine Txt.tl_pure (v := ?_) (by rfl) ?_ ?_; rotate_left; (focus (intro _; go_simp; try with_reducible rfl)); simp only [Act.put, List.setIfInBounds_toArray, List.set_cons_zero, List.set_cons_succ])
        | (refine Txt.tl_skip (by rfl) trivial ?_; simp only [Act.put, List.setIfInBounds_toArray, List.set_cons_zero, List.set_cons_succ])
        | (refine Txt.tl_load (v := ?_) (by rfl) (by rfl) (by rfl) (by kernel_rfl) ?_ ?_; rotate_left; (focus (first | assumption | (go_simp; done) | (go_simp; with_reducible rfl))); simp only [Act.put, List.setIfInBounds_toArray, List.set_cons_zero, List.set_cons_succ])
        | (refine Txt.tl_alloc (by rfl) ?_; go_simp; refine ⟨by (first | exact Txt.Le.alloc_drew _ _ | exact Txt.Le.alloc _ _), ?_⟩))
      refine Txt.tl_loud (by rfl) ?_
      go_simp
      refine (rraw_v _ b s a bb 32 x a' b' (HR.out.keep ((Keep.refl (fun _ => False) wr).alloc _).drew (fun h => h)) Hq.out).mono ?_
      rintro e w2 ⟨rfl, h1, k1⟩
      have H2 : Hid _ := h1
      have K2 : Hid (Keep (fun y => y = b) wr w2) := (((Keep.refl (fun y => y = b) wr).alloc _).drew).trans k1
      have hg : w2.heap[wr.heap.size]? = some (.cells z32 41 (0, 0)) := k1.get (by exact heap_alloc_new wr _) (fun e => by omega)
      clear h1 k1
      dsimp only
      repeat (first
        | (refine Txt.tl_pure (v := ?_) (by rfl) ?_ ?_; rotate_left; (focus (intro _; go_simp; try with_reducible rfl)); simp only [Act.put, List.setIfInBounds_toArray, List.set_cons_zero, List.set_cons_succ])
        | (refine Txt.tl_skip (by rfl) trivial ?_; simp only [Act.put, List.setIfInBounds_toArray, List.set_cons_zero, List.set_cons_succ])
        | (refine Txt.tl_load (v := ?_) (by rfl) (by rfl) (by rfl) (by kernel_rfl) ?_ ?_; rotate_left; (focus (first | assumption | (go_simp; done) | (go_simp; with_reducible rfl))); simp only [Act.put, List.setIfInBounds_toArray, List.set_cons_zero, List.set_cons_succ])
        | (refine Txt.tl_alloc (by rfl) ?_; go_simp; refine ⟨by (first | exact Txt.Le.alloc_drew _ _ | exact Txt.Le.alloc _ _), ?_⟩))
      refine Txt.tl_loud (by rfl) ?_
      refine wp_copy rfl rfl rfl hx hg ?_
      intro w3 h3 k3
      have H3 : Hid _ := h3
      have K3 : Hid (Keep (fun y => y = b) wr w3) := K2.out.trans' k3 (fun _ _ h => h) (fun y hy (e : y = wr.heap.size) => by omega)
      have R3 : Hid (IsR w3 b s a' b') := H2.out.keep k3 (fun (e : b = wr.heap.size) => by omega)
      have Hld : Hid (w3.rangeAt wr.heap.size 0 ((pad x.data.toList).map bv)) := fun j v hj => by rw [Nat.zero_add, cell_of h3]; simpa using hj
      clear h3 k3 hg
      refine ⟨trivial, ?_⟩
      simp only [Act.put, List.setIfInBounds_toArray, List.set_cons_zero, List.set_cons_succ]
      refine Txt.tl_nil ?_
      go_wp2_with (first | (refine wl_load rfl rfl rfl Hpl.out Hld.out ?_; simp only [Act.put, List.setIfInBounds_toArray, List.set_cons_zero, List.set_cons_succ]) | (refine wl_build rfl rfl Hpl.out rfl ?_; simp only [Act.put, List.setIfInBounds_toArray, List.set_cons_zero, List.set_cons_succ]) | (refine wl_app1 rfl rfl rfl (HO.out.keep (K3.out.alloc _) (fun y hy e => by have := HN.out y hy; omega)) rfl Hpl.out (heap_alloc_new _ _) (by omega) ?_; intro v' w4 h1 h2 h3; have H4 : Hid _ := h1; have K4 : Hid _ := h2; have A4 : Hid _ := h3; clear h1 h2 h3; simp only [Act.put, List.setIfInBounds_toArray, List.set_cons_zero, List.set_cons_succ]))
      go_roundw
      case rel =>
        have kk : Keep (fun y => y = b) w w4 := (HK.out.trans (K3.out.alloc _)).trans' K4.out (fun _ _ h => h) (fun y hy e => by have := HN.out y e; omega)
        refine ⟨k + 1, _, by omega, rfl, rfl, by rw [HS.out]; exact H4.out, by rw [HS.out]; exact (R3.out.keep ((Keep.refl (fun _ => False) _).alloc _) (fun h => h)).keep K4.out (fun e => by have := HN.out b e; omega), kk, fun y hy => ?_⟩
        rcases A4.out with e | e
        · rw [e] at hy; exact HN.out y hy
        · rw [e] at hy
          have h1 := K3.out.size
          have h2 := HK.out.size
          simp at hy
          omega
      case measure => simp [intOf]; omega
    · obtain rfl : k = n := by omega
      go_wp2
      go_ret
      exact ⟨o, rfl, HO.out, HR.out, HK.out, HN.out⟩
end Ids
end Go.Proofs.Ytmnmemeldjbifaa
