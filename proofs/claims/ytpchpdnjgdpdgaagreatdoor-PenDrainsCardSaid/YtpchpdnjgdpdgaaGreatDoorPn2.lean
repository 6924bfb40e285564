/-
  The pen in memory; New, Len, Lost, Has, All.
-/
import Derived.Test.YtpchpdnjgdpdgaaGreatDoorPn1
set_option linter.unusedVariables false
set_option linter.unusedSimpArgs false
namespace Go.Proofs.YtpchpdnjgdpdgaaGreatDoor
open Go.RowKit
namespace Pn
open Oct Ids Gn Hd
open Mem (M It blk ids rows)

/-- The parents of who waits. -/
def pars (L : List Wt) : It := ⟨fun k => ∃ x ∈ L, ∃ off, x.a = some ⟨k, off, none⟩, fun w => ∀ x ∈ L, At w x.a x.n x.l, fun w w' S h k n => fun x hx => (h x hx).keep k (fun b off e => n b ⟨x, hx, off, e⟩)⟩
abbrev pc (v : Value) (lost : Int) : Obj := .cells #[v, .int .i64 lost, .bool true] 68
/-- What a pen is, as it lies. -/
structure PenAt (w : World) (b : Nat) (v : Value) (L : List Wt) (lost : Int) : Prop where
  m : M (fun k => (k = b ∨ v.ownBlock = some k) ∨ ∃ x ∈ L, ∃ off, x.a = some ⟨k, off, none⟩) w w [blk b (pc v lost), rows 71 71 we v L, pars L]
/-- The blocks that it takes up. -/
def foot (b : Nat) (v : Value) (L : List Wt) (k : Nat) : Prop := (k = b ∨ v.ownBlock = some k) ∨ ∃ x ∈ L, ∃ off, x.a = some ⟨k, off, none⟩
theorem PenAt.all {w : World} {b : Nat} {v : Value} {L : List Wt} {lost : Int} (h : PenAt w b v L lost) : M (foot b v L) w w [blk b (pc v lost), rows 71 71 we v L, pars L] := h.m
theorem mk3 {F : Nat → Prop} {w0 w : World} {b : Nat} {v : Value} {L : List Wt} {lost : Int} (h : M F w0 w [blk b (pc v lost), rows 71 71 we v L, pars L]) : PenAt w b v L lost := by
  refine ⟨⟨h.all, h.dis, fun i x hi k hk => ⟨.inr ?_, (h.rng i x hi k hk).2⟩, Keep.refl _ _⟩⟩
  match i, hi with
  | 0, hi => cases hi; exact .inl (.inl hk)
  | 1, hi => cases hi; exact .inl (.inr hk)
  | 2, hi => cases hi; exact .inr hk
/-- A pen as one thing among others. -/
def penI (b : Nat) (v : Value) (L : List Wt) (lost : Int) : It := ⟨foot b v L, fun w => PenAt w b v L lost, fun w w' S h k n => by
  have hm := h.all
  refine ⟨⟨fun i x hi => ?_, hm.dis, fun i x hi j hj => ⟨.inr ?_, Nat.lt_of_lt_of_le (hm.rng i x hi j hj).2 k.size⟩, Keep.refl _ _⟩⟩
  · refine x.stable w w' S (hm.all i x hi) k (fun j hj => n j ?_)
    match i, hi with
    | 0, hi => cases hi; exact .inl (.inl hj)
    | 1, hi => cases hi; exact .inl (.inr hj)
    | 2, hi => cases hi; exact .inr hj
  · match i, hi with
    | 0, hi => cases hi; exact .inl (.inl hj)
    | 1, hi => cases hi; exact .inl (.inr hj)
    | 2, hi => cases hi; exact .inr hj⟩
section
variable {w w' : World} {b : Nat} {v v' : Value} {L L' : List Wt} {lost lost' : Int}
theorem PenAt.blk (h : PenAt w b v L lost) : w.heap[b]? = some (.cells #[v, .int .i64 lost, .bool true] 68 (0, 0)) := h.all.get 0 rfl
theorem PenAt.cells (h : PenAt w b v L lost) : w.cell? ⟨b, 0, none⟩ = some v ∧ w.cell? ⟨b, 1, none⟩ = some (.int .i64 lost) ∧ w.cell? ⟨b, 2, none⟩ = some (.bool true) := ⟨by rw [cell_of h.blk]; rfl, by rw [cell_of h.blk]; rfl, by rw [cell_of h.blk]; rfl⟩
theorem PenAt.calm (h : PenAt w b v L lost) (k : Keep (fun _ => False) w w') : PenAt w' b v L lost := (penI b v L lost).stable w w' _ h k (fun _ _ h => h)
theorem PenAt.row (h : PenAt w b v L lost) : ∃ a c, v = .slice a L.length c ∧ St.At 71 we w a L.length L := (show St.Own _ _ _ w v L from h.all.get 1 rfl).any
theorem PenAt.par (h : PenAt w b v L lost) : ∀ x ∈ L, At w x.a x.n x.l := h.all.get 2 rfl
theorem PenAt.own (h : PenAt w b v L lost) : St.Own 71 71 we w v L := h.all.get 1 rfl
/-- A new pen. -/
theorem penNew (w : World) : PenAt (w.alloc (.cells #[.slice none 0 0, .int .i64 0, .bool true] 68)) w.heap.size (.slice none 0 0) [] 0 :=
  mk3 ((((M.start (fun _ => False) w).alloc (pc (.slice none 0 0) 0) rfl).nilR 71 71 we).add (x := pars []) (Keep.refl _ _) (fun x hx => by cases hx) (fun k ⟨x, hx, _⟩ => by cases hx))
end
set_option maxRecDepth 100000 in
theorem pnew (w : World) : Calls Tryz.prog 8 #[] w fun e w' => e = .returned (.pointer (some ⟨w.heap.size, 0, none⟩)) ∧ PenAt w' w.heap.size (.slice none 0 0) [] 0 ∧ Keep (fun _ => False) w w' := by
  have HN : Hid _ := penNew w
  go_enter Tryz.func8, Tryz.ntmps8
  go_wp2
  go_ret
  exact ⟨rfl, HN.out, (Keep.refl _ _).alloc _⟩
set_option maxRecDepth 100000 in
theorem plen (w : World) (b : Nat) (v : Value) (L : List Wt) (lost : Int) (h : PenAt w b v L lost) (hl : L.length ≤ 1000000) : Calls Tryz.prog 11 #[.pointer (some ⟨b, 0, none⟩)] w fun e w' => e = .returned (.int .i64 L.length) ∧ w' = w := by
  obtain ⟨c0, c1, c2⟩ := h.cells
  obtain ⟨a, c, rfl, _⟩ := h.row
  go_enter Tryz.func11, Tryz.ntmps11
  go_wp2
  go_ret
  exact ⟨rfl, rfl⟩
theorem we_mid (x : Wt) : (we x).drop 38 = x.id.map bv ++ [.int .i64 x.fr] := by
  unfold we
  rw [List.drop_append_of_le_length (by rw [hv_len]; exact Nat.le_refl _), List.drop_eq_nil_of_le (by rw [hv_len]; exact Nat.le_refl _), List.nil_append]
/-- A waiter in a block of its own: its parts. -/
theorem wt_id {w : World} {b : Nat} {x : Wt} {t : TypeId} {fr : Nat × Nat} (h : w.heap[b]? = some (.cells (we x).toArray t fr)) : w.rangeAt b 38 (x.id.map bv) := fun j v hj => by
  rw [cell_of h, List.getElem?_toArray, ← List.getElem?_drop, we_mid, List.getElem?_append_left (List.getElem?_eq_some_iff.1 hj).1]
  exact hj
theorem wt_hd {w : World} {b : Nat} {x : Wt} {t : TypeId} {fr : Nat × Nat} (h : w.heap[b]? = some (.cells (we x).toArray t fr)) : w.rangeAt b 0 (hv x) := fun j v hj => by
  rw [cell_of h, List.getElem?_toArray, Nat.zero_add]
  unfold we
  rw [List.getElem?_append_left (List.getElem?_eq_some_iff.1 hj).1]
  exact hj
theorem wt_fr {w : World} {b : Nat} {x : Wt} {t : TypeId} {fr : Nat × Nat} (h : w.heap[b]? = some (.cells (we x).toArray t fr)) : w.cell? ⟨b, 70, none⟩ = some (.int .i64 x.fr) := by
  rw [cell_of h, List.getElem?_toArray, show (70 : Nat) = 38 + 32 from rfl, ← List.getElem?_drop, we_mid, List.getElem?_append_right (by rw [List.length_map, x.hid]; exact Nat.le_refl _), List.length_map, x.hid]
  rfl
theorem wt_pv {w : World} {b : Nat} {x : Wt} {t : TypeId} {fr : Nat × Nat} (h : w.heap[b]? = some (.cells (we x).toArray t fr)) : w.cell? ⟨b, 0, none⟩ = some (.slice x.a x.n x.c) := wt_hd h 0 _ rfl
set_option maxRecDepth 100000 in
set_option maxHeartbeats 1000000 in
theorem has1 (w : World) (x : Wt) (ib : Nat) (u : List UInt8) (hu : u.length = 32) (hi : w.heap[ib]? = some (.cells (u.map bv).toArray 28 (0, 0))) :
    Calls Tryz.prog 74 #[.agg (we x).toArray, .pointer (some ⟨ib, 0, none⟩)] w fun e w' => e = .returned (.bool (x.id == u)) ∧ Keep (fun _ => False) w w' := by
  obtain ⟨p, hp⟩ : ∃ p, (x.id == u) = p := ⟨_, rfl⟩
  have hcmp : ∀ w, Sem.run Tryz.prog (binOp .eql 28 (idv x.id) (idv u)) w = .ok (.bool p) w := fun w => by rw [eql_id w x.id u x.hid hu, hp]
  have HI : Hid (w.heap[ib]? = some (.cells (u.map bv).toArray 28 (0, 0))) := hi
  have Lu : Hid (u.length = 32) := hu
  have HB : Hid ((w.alloc (.cells (we x).toArray 71)).heap[w.heap.size]? = some (.cells (we x).toArray 71 (0, 0))) := heap_alloc_new w _
  have HJ : Hid ((w.alloc (.cells (we x).toArray 71)).heap[ib]? = some (.cells (u.map bv).toArray 28 (0, 0))) := ((Keep.refl (fun _ => False) w).alloc _).get hi (fun h => h)
  rw [hp]
  clear hi hu hp
  have R1 : Hid _ := wt_id HB.out
  have R2 : Hid ((w.alloc (.cells (we x).toArray 71)).rangeAt ib 0 (u.map bv)) := fun j v hj => by rw [Nat.zero_add, cell_of HJ.out, List.getElem?_toArray]; exact hj
  have KA : Hid (Keep (fun _ => False) w (w.alloc (.cells (we x).toArray 71))) := (Keep.refl _ _).alloc _
  clear HB HJ
  generalize (we x).toArray = X at *
  go_enter Tryz.func74, Tryz.ntmps74
  go_wp2_with (first | ((with_reducible refine at_load 28 ?_); first | (refine Ids.wl_load rfl rfl rfl x.hid R1.out ?_; simp only [Act.put, List.setIfInBounds_toArray, List.set_cons_zero, List.set_cons_succ]) | (refine Ids.wl_load rfl rfl rfl Lu.out R2.out ?_; simp only [Act.put, List.setIfInBounds_toArray, List.set_cons_zero, List.set_cons_succ])))
  go_ret
  exact ⟨rfl, KA.out⟩
end Pn
end Go.Proofs.YtpchpdnjgdpdgaaGreatDoor
