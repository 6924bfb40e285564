/-
  rule.named: a header with its id; its order.
-/
import Derived.Test.YtgllkfolckbdhaaGreatDoorRu5
set_option linter.unusedVariables false
set_option linter.unusedSimpArgs false
namespace Go.Proofs.YtgllkfolckbdhaaGreatDoor
open Go.RowKit
namespace Ru
open Oct Ids Gn Hd
open Mem (M It blk ids rows)

/-- A header with its id. -/
structure Nm where
  h : Hh
  id : List UInt8
  hid : id.length = 32
def ne (x : Nm) : List Value := he x.h ++ x.id.map bv
theorem encNe : St.Enc 70 ne := by
  refine ⟨fun x => by unfold ne; rw [List.length_append, he_len, List.length_map, x.hid], fun x u hu => ?_⟩
  unfold ne at hu
  rcases List.mem_append.1 hu with h | h
  · exact encHe.one x.h u h
  · obtain ⟨y, _, rfl⟩ := List.mem_map.1 h
    rfl
theorem ne_sz (x : Nm) : (ne x).toArray.size = 70 := by rw [List.size_toArray, encNe.len]
abbrev nz : Array Value := (hd (.slice none 0 0) 0 ByteArray.empty 0 0 0 Z32 ++ Z32.map bv).toArray
theorem tyN : St.Ty 60 70 nz := ⟨⟨_, Tryz.underlying60, rfl⟩, by kernel_rfl, by kernel_rfl⟩
theorem slN : SlT Tryz.prog 56 60 (.agg nz) 70 136 := SlT.mk' Tryz.underlying56 (by kernel_rfl) rfl (by omega)
theorem at_callW {P : Program} {f : Nat} {w : World} {Q : Ending → World → Prop} (args : Array Value) (h : Calls P f args w Q) : Calls P f args w Q := h
theorem nm_id {w : World} {b : Nat} {x : Nm} {t : TypeId} {fr : Nat × Nat} (h : w.heap[b]? = some (.cells (ne x).toArray t fr)) : w.rangeAt b 38 (x.id.map bv) := fun j v hj => by
  rw [cell_of h, List.getElem?_toArray]
  unfold ne
  rw [List.getElem?_append_right (by rw [he_len]; omega), he_len, Nat.add_sub_cancel_left]
  exact hj
theorem nm_G {w : World} {b : Nat} {x : Nm} {t : TypeId} {fr : Nat × Nat} (h : w.heap[b]? = some (.cells (ne x).toArray t fr)) : w.cell? ⟨b, 1, none⟩ = some (.int .i64 x.h.G) := by
  rw [cell_of h]; rfl
/-- By heights, then by ids. -/
def od (x y : Nm) : Int := if ah x.h.G x.id y.h.G y.id = true then -1 else if ah y.h.G y.id x.h.G x.id = true then 1 else 0
set_option maxRecDepth 100000 in
set_option maxHeartbeats 2000000 in
theorem order_any (w : World) (x y : Nm) : Calls Tryz.prog 55 #[.agg (ne x).toArray, .agg (ne y).toArray] w fun e w' => e = .returned (.int .i64 (od x y)) ∧ Keep (fun _ => False) w w' := by
  have HM : Hid (M (fun _ => False) w _ [blk w.heap.size (.cells (ne x).toArray 60), blk (w.heap.size + 1) (.cells (ne y).toArray 60)]) := ((M.start _ w).alloc (.cells (ne x).toArray 60) rfl).alloc (.cells (ne y).toArray 60) (by simp)
  obtain ⟨p, hp⟩ : ∃ p, ah x.h.G x.id y.h.G y.id = p := ⟨_, rfl⟩
  obtain ⟨q, hq⟩ : ∃ q, ah y.h.G y.id x.h.G x.id = q := ⟨_, rfl⟩
  have H1 : Hid (∀ w, Calls Tryz.prog 74 #[.int .i64 x.h.G, idv x.id, .int .i64 y.h.G, idv y.id] w fun e w' => e = .returned (.bool p) ∧ Keep (fun _ => False) w w') := fun w => ahead_any w _ _ _ _ x.hid y.hid p hp
  have H2 : Hid (∀ w, Calls Tryz.prog 74 #[.int .i64 y.h.G, idv y.id, .int .i64 x.h.G, idv x.id] w fun e w' => e = .returned (.bool q) ∧ Keep (fun _ => False) w w') := fun w => ahead_any w _ _ _ _ y.hid x.hid q hq
  have HO : Hid (od x y = if p = true then -1 else if q = true then 1 else 0) := by show _ = _; unfold od; rw [hp, hq]
  have gx := nm_G (HM.out.get 0 rfl)
  have gy := nm_G (HM.out.get 1 rfl)
  generalize od x y = r at HO ⊢
  clear hp hq
  go_enter Tryz.func55, Tryz.ntmps55
  go_wp2_with (first | ((with_reducible refine at_load 24 ?_); first | (refine wl_loadG (by rfl) rfl rfl x.hid (nm_id (HM.out.get 0 rfl)) ?_; simp only [Act.put, List.setIfInBounds_toArray, List.set_cons_zero, List.set_cons_succ]) | (refine wl_loadG (by rfl) rfl rfl y.hid (nm_id (HM.out.get 1 rfl)) ?_; simp only [Act.put, List.setIfInBounds_toArray, List.set_cons_zero, List.set_cons_succ])) | ((with_reducible refine at_callW #[.int .i64 x.h.G, idv x.id, .int .i64 y.h.G, idv y.id] ?_); refine (H1.out _).mono ?_; rintro e w1 ⟨rfl, k1⟩; have HM : Hid _ := HM.out.calm k1; have gx := nm_G (HM.out.get 0 rfl); have gy := nm_G (HM.out.get 1 rfl); clear k1) | ((with_reducible refine at_callW #[.int .i64 y.h.G, idv y.id, .int .i64 x.h.G, idv x.id] ?_); refine (H2.out _).mono ?_; rintro e w2 ⟨rfl, k1⟩; have HM : Hid _ := HM.out.calm k1; clear k1))
  all_goals
    go_ret
    refine ⟨?_, HM.out.keep⟩
    rw [HO.out]
    simp_all
end Ru
end Go.Proofs.YtgllkfolckbdhaaGreatDoor
