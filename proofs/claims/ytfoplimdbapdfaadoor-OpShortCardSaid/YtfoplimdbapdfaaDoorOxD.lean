/-
  petrelref07: short, raw.
-/
import Derived.Test.YtfoplimdbapdfaaDoorOxC
set_option linter.unusedVariables false
set_option linter.unusedSimpArgs false
namespace Go.Proofs.YtfoplimdbapdfaaDoor
open Go.RowKit
namespace Ox
open Oct Ids
open OctRd (be_len)
open Mem

set_option maxRecDepth 100000 in
theorem rshort_any (w : World) (s : ByteArray) (hs : s.size ≤ 255) (v : ByteArray) (hv : (⟨(sh s).toArray⟩ : ByteArray) = v) : Calls Tryd.prog 53 #[.string s] w fun e w' => e = .returned (.string v) ∧ Keep (fun _ => False) w w' := by
  subst hv
  obtain ⟨N1, hN1⟩ : ∃ N : ByteArray, (⟨(be 1 s.size).toArray⟩ : ByteArray) = N := ⟨_, rfl⟩
  have hz1 : N1.size = 1 := by rw [← hN1, Byt.arr_size, be_len]
  have e : (⟨(sh s).toArray⟩ : ByteArray) = N1 ++ s := by rw [← hN1]; apply ByteArray.ext; simp [sh]
  rw [e]
  have HN1 : Hid _ := hN1
  clear hN1 e
  go_enter Tryd.func53, Tryd.ntmps53
  go_wp2_with (first | (go_at_call 52; refine (Ref.num1 _ s.size (by omega) (by omega)).mono ?_; rw [HN1.out]; rintro e w1 ⟨rfl, k1⟩; have HK : Hid _ := k1; clear k1))
  go_ret
  exact ⟨rfl, HK.out⟩
set_option maxRecDepth 100000 in
set_option maxHeartbeats 1000000 in
theorem rraw_any (w : World) (c : List UInt8) (hc : c.length = 32) (v : ByteArray) (hv : (⟨c.toArray⟩ : ByteArray) = v) : Calls Tryd.prog 54 #[idv c] w fun e w' => e = .returned (.string v) ∧ Keep (fun _ => False) w w' := by
  subst hv
  have Hlc : Hid (c.length = 32) := hc
  have M0 : Hid (M (fun _ => False) w _ [blk w.heap.size (.cells (c.map bv).toArray 24), byt (.slice none 0 0) []]) := ((M.start (fun _ => False) w).alloc (.cells (c.map bv).toArray 24) rfl).nilB
  clear hc
  go_enter Tryd.func54, Tryd.ntmps54
  go_wp2
  go_loopw [3, 4] (fun b i wr => ∃ (k : Nat) (v : Value), k ≤ 32 ∧ i = .int .i64 k ∧ b = v ∧ M (fun _ => False) w wr [blk w.heap.size (.cells (c.map bv).toArray 24), byt v (c.take k)]) (fun _ i _ => 32 - (intOf i).toNat)
  case atStart => exact ⟨0, _, Nat.zero_le _, rfl, rfl, M0.out⟩
  case round =>
    obtain ⟨k, v, hk, rfl, hv, hM⟩ := hrel
    replace hv := hv.symm
    subst hv
    have HM : Hid _ := hM
    clear hM
    by_cases hlt : k < 32
    · obtain ⟨d, hd⟩ : ∃ d, c[k]? = some d := ⟨_, List.getElem?_eq_getElem (by rw [Hlc.out]; exact hlt)⟩
      have g4 : wr.cell? ⟨w.heap.size, k, none⟩ = some (.int .u8 (d.toNat : Int)) := HM.out.cell 0 rfl k (by rw [List.getElem?_toArray]; simp [hd, bv])
      have Hd : Hid _ := hd
      clear hd
      go_wp2_with (first | (refine Byt.wl_app1 rfl rfl rfl ((HM.out.alloc _ rfl).get 1 rfl) rfl (heap_alloc_new _ _) (by simp; omega) ?_; intro v' w5 h1 k1 h3; have HM : Hid _ := (HM.out.alloc _ rfl).appB 1 rfl h1 k1 h3; clear h1 k1 h3; simp only [Act.put, List.setIfInBounds_toArray, List.set_cons_zero, List.set_cons_succ]))
      go_roundw
      case rel => exact ⟨k + 1, v', by omega, rfl, rfl, by rw [List.take_add_one, Hd.out]; exact HM.out.take 2⟩
      case measure => simp [intOf]; omega
    · obtain rfl : k = 32 := by omega
      have hcv := (HM.out.get 1 rfl).str
      have e : (⟨(c.take 32).toArray⟩ : ByteArray) = ⟨c.toArray⟩ := by rw [List.take_of_length_le (by rw [Hlc.out]; exact Nat.le_refl _)]
      rw [e] at hcv
      obtain ⟨C, hC⟩ : ∃ C : ByteArray, (⟨c.toArray⟩ : ByteArray) = C := ⟨_, rfl⟩
      rw [hC] at hcv
      have HC : Hid _ := hC
      clear hC e
      go_wp2
      go_ret
      exact ⟨by rw [HC.out]; rfl, HM.out.keep⟩
theorem rids_v (w : World) (a : Option Addr) (n c : Nat) (l : List (List UInt8)) (h : At w a n l) (hn : n < 256) (v : ByteArray) (hv : (⟨(rf l).toArray⟩ : ByteArray) = v) :
    Calls Tryd.prog 55 #[.slice a n c] w fun e w' => e = .returned (.string v) ∧ Keep (fun _ => False) w w' := by
  subst hv
  have := ids_any w a n c l h hn
  unfold rf
  rw [h.len]
  exact this
end Ox
end Go.Proofs.YtfoplimdbapdfaaDoor
