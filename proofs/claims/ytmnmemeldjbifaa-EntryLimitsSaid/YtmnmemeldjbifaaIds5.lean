/-
  An id read: petrelref01's Reader.Id; msg's list.
-/
import Derived.Test.YtmnmemeldjbifaaIds4
import Derived.Test.YtmnmemeldjbifaaRdLaw
set_option linter.unusedVariables false
set_option linter.unusedSimpArgs false
namespace Go.Proofs.Ytmnmemeldjbifaa
open Go.RowKit
namespace Ids
open Oct Ref

theorem xraw_v (w : World) (b : Nat) (s : ByteArray) (e n : Int) (x s' : ByteArray) (e' : Int) (h : IsX w b s e) (hv : xraw s e n = (x, s', e')) : Calls Try.prog 66 #[.pointer (some ⟨b, 0, none⟩), .int .i64 n] w fun en w' =>
    en = .returned (.string x) ∧ IsX w' b s' e' ∧ Keep (fun k => k = b) w w' := by
  have := xraw_any w b s e n h
  rw [hv] at this
  exact this
theorem xraw_32 (s : ByteArray) (e : Int) : (xraw s e 32).1.size ≤ 32 := by
  unfold xraw
  split
  · exact Nat.zero_le _
  · split
    · exact Nat.zero_le _
    · split
      · exact Nat.zero_le _
      · rw [ByteArray.size_extract]; omega
theorem pad_set (x : ByteArray) (k : Nat) (h : k < x.size) (h2 : x.size ≤ 32) : (pad (x.data.toList.take k)).set k x[k] = pad (x.data.toList.take (k + 1)) := by
  have hl : x.data.toList.length = x.size := by rw [Array.length_toList]; rfl
  have ht : x.data.toList.take (k + 1) = x.data.toList.take k ++ [x[k]] := by
    rw [List.take_succ_eq_append_getElem (by omega)]; rfl
  unfold pad
  rw [List.length_take, List.length_take, Nat.min_eq_left (by omega), Nat.min_eq_left (by omega)]
  rw [List.set_append_right _ _ (by rw [List.length_take]; omega), ht, List.append_assoc]
  congr 1
  rw [List.length_take, Nat.min_eq_left (by omega), Nat.sub_self, show 32 - k = (32 - (k + 1)) + 1 from by omega, List.replicate_succ]
  rfl
theorem pad_get (x : ByteArray) (k : Nat) (h : k < x.size) (h2 : x.size ≤ 32) : ((pad (x.data.toList.take k)).map bv).toArray[k]? = some (.int .u8 0) := by
  have hl : x.data.toList.length = x.size := by rw [Array.length_toList]; rfl
  unfold pad
  simp only [List.getElem?_toArray, List.map_append, List.length_take]
  rw [List.getElem?_append_right (by simp; omega)]
  simp only [List.length_map, List.length_take, List.map_replicate]
  rw [List.getElem?_replicate, if_pos (by omega)]
  rfl
set_option maxRecDepth 100000 in
set_option maxHeartbeats 1000000 in
theorem xid_any (w : World) (b : Nat) (s : ByteArray) (e : Int) (x s' : ByteArray) (e' : Int) (h : IsX w b s e) (hv : xraw s e 32 = (x, s', e')) : Calls Try.prog 41 #[.pointer (some ⟨b, 0, none⟩)] w fun en w' =>
    en = .returned (idv (pad x.data.toList)) ∧ IsX w' b s' e' ∧ Keep (fun k => k = b) w w' := by
  have hz : x.size ≤ 32 := by have := xraw_32 s e; rw [hv] at this; exact this
  have H : Hid _ := h
  have Hv : Hid _ := hv
  clear h hv
  go_enter Try.func41, Try.ntmps41
  go_wp2_with (first | (go_at_call 66; refine (xraw_v _ b s e 32 x s' e' (H.out.keep (((Keep.refl (fun _ => False) w).alloc _).alloc _) (fun h => h)) Hv.out).mono ?_; rintro e w1 ⟨rfl, h1, k1⟩; have H1 : Hid _ := h1; have K1 : Hid _ := k1; clear h1 k1))
  have o1 : w1.heap[w.heap.size]? = some (.cells z32 41 (0, 0)) := K1.out.get (heap_a (heap_alloc_new w _)) (fun e => by have := lt_of_block H.out.blk; omega)
  have o2 : w1.heap[w.heap.size + 1]? = some (.cells z32 41 (0, 0)) := by
    have := K1.out.get (heap_alloc_new (w.alloc (.cells z32 41)) (.cells z32 41)) (fun e => by have := lt_of_block H.out.blk; simp at e; omega)
    simpa using this
  have O1 : Hid _ := o1
  have O2 : Hid (w1.heap[w.heap.size + 1]? = some (.cells ((pad (x.data.toList.take 0)).map bv).toArray 41 (0, 0))) := o2
  have Kw : Hid (Keep (fun k => k = b) w w1) := (((Keep.refl _ w).alloc _).alloc _).trans K1.out
  have hbw : b < w.heap.size := lt_of_block H.out.blk
  clear o1 o2
  go_loopw [5] (fun i wr => ∃ k : Nat, k ≤ x.size ∧ i = .int .i64 k ∧ Keep (fun k => k = b) w wr ∧ IsX wr b s' e' ∧ wr.heap[w.heap.size]? = some (.cells z32 41 (0, 0)) ∧ wr.heap[w.heap.size + 1]? = some (.cells ((pad (x.data.toList.take k)).map bv).toArray 41 (0, 0))) (fun i _ => x.size - (intOf i).toNat)
  case atStart => exact ⟨0, Nat.zero_le _, rfl, Kw.out, H1.out, O1.out, O2.out⟩
  case round =>
    obtain ⟨k, hk, rfl, h1, h2, h3, h4⟩ := hrel
    have K1 : Hid _ := h1
    have H1 : Hid _ := h2
    have O1 : Hid _ := h3
    have O2 : Hid _ := h4
    clear h1 h2 h3 h4
    by_cases hlt : k < x.size
    · have hc : wr.cell? ⟨w.heap.size + 1, k, none⟩ = some (.int .u8 0) := (cell_of O2.out).trans (pad_get x k hlt hz)
      have hf : wr.frozen? ⟨w.heap.size + 1, k, none⟩ = false := free_of O2.out
      go_wp2
      go_roundw
      case rel =>
        refine ⟨k + 1, by omega, rfl, K1.out.setCell _ _ (fun (e : w.heap.size + 1 < _) => by omega), ⟨heap_s H1.out.blk (by show b ≠ w.heap.size + 1; omega), H1.out.small⟩, heap_s O1.out (by show w.heap.size ≠ w.heap.size + 1; omega), ?_⟩
        rw [block_set O2.out, ← pad_set x k hlt hz]
        simp [bv, List.map_set]
      case measure => simp [intOf]; omega
    · obtain rfl : k = x.size := by omega
      have e : x.data.toList.take x.size = x.data.toList := List.take_of_length_le (by rw [Array.length_toList]; exact Nat.le_refl _)
      have O3 : Hid (wr.heap[w.heap.size + 1]? = some (.cells ((pad x.data.toList).map bv).toArray 41 (0, 0))) := by have := O2.out; rwa [e] at this
      have hpl := pad_len x.data.toList (by rw [Array.length_toList]; exact hz)
      have Hpl : Hid _ := hpl
      have Hr : Hid (wr.rangeAt (w.heap.size + 1) 0 ((pad x.data.toList).map bv)) := fun j v hj => by rw [Nat.zero_add, cell_of O3.out]; simpa using hj
      clear e hpl
      go_wp2_with (first | (refine wl_load rfl rfl rfl Hpl.out Hr.out ?_; simp only [Act.put, List.setIfInBounds_toArray, List.set_cons_zero, List.set_cons_succ]) | (refine wl_store rfl rfl rfl rfl O1.out rfl Hpl.out rfl ?_))
      refine bodyPost_ret (res_id rfl _ _ w.heap.size (pad x.data.toList) Hpl.out rfl (setRow_heap _ _ _ _ _ _ O1.out)) rfl ?_
      exact ⟨rfl, ⟨(setRow_other _ _ _ _ (by omega)).trans H1.out.blk, H1.out.small⟩, K1.out.setRow _ _ (fun h => by omega)⟩
end Ids
end Go.Proofs.Ytmnmemeldjbifaa
