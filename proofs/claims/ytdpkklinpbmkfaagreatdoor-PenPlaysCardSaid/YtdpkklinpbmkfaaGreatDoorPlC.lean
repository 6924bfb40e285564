/-
  The calls of PenPlays, as they came in.
-/
import Derived.Test.YtdpkklinpbmkfaaGreatDoorHdF
set_option linter.unusedVariables false
set_option linter.unusedSimpArgs false
namespace Go.Proofs.YtdpkklinpbmkfaaGreatDoor
open Go.RowKit
namespace Pl
open Oct Ids Gn Hd
open Go.ChangeShapes Go.WideShapes Go.ChangeAt
/-- A call. -/
abbrev AA := Int × HH × Int × Opn.Sl (List UInt8) × Unit
def layA (x : AA) : List Value := .int .i64 x.1 :: (layH x.2.1 ++ [.int .i64 x.2.2.1, x.2.2.2.1.val])
def factA (W : World) (x : AA) : Prop := factH W x.2.1 ∧ At W x.2.2.2.1.a x.2.2.2.1.len x.2.2.2.1.els
theorem layA_len (x : AA) (h : x.2.1.2.2.2.2.2.2.1.length = 32) : (layA x).length = 41 := by
  unfold layA
  rw [List.length_cons, List.length_append]
  have : (layH x.2.1).length = 38 := hd_len _ _ _ _ _ _ _ h
  rw [this]
  rfl
theorem rdA : Opn.Rd Tryz.prog 48 41 layA factA (fun x => x.2.1.2.2.1.size) := by
  have h := Opn.rd_struct (T := 48) Tryz.underlying48 (by kernel_rfl) (Opn.rdf_cons Opn.rd_i rfl (Opn.rdf_cons rdH rfl (Opn.rdf_cons Opn.rd_i rfl (Opn.rdf_cons Opn.rd_idl rfl Opn.rdf_nil))))
  refine ⟨h.size, fun W x hx => layA_len x hx.1.1, fun H enc W fuel cs y hy => ?_, fun W W' x hl hx => ?_⟩
  · obtain ⟨x, e, ⟨f0, f1, f2, f3, _⟩, b⟩ := h.op H enc W fuel cs y hy
    refine ⟨x, by rw [e]; simp [layA, Opn.Sl.val], ⟨f1, Opn.at_of f3⟩, ?_⟩
    have b' : (1 + (x.2.1.2.2.1.size + (1 + ((x.2.2.2.1.els.map fun _ => 32).sum + 1 + 0)))) + 1 ≤ Rows.uptoBulk y.1 := b
    omega
  · exact ⟨rdH.mono W W' x.2.1 hl hx.1, Opn.at_leaves hx.2 (fun b o hb => hl b o hb) (fun b i cs hc => hl.range hc)⟩
abbrev az : Array Value := (Value.int .i64 0 :: (hd (.slice none 0 0) 0 ByteArray.empty 0 0 0 Z32 ++ [Value.int .i64 0, .slice none 0 0])).toArray
theorem tyA : St.Ty 48 41 az := ⟨⟨_, Tryz.underlying48, rfl⟩, by kernel_rfl, by kernel_rfl⟩
theorem layA_one (x : AA) : (layA x).toArray.all (·.oneCell') = true := by
  rw [Array.all_eq_true_iff_forall_mem]
  intro u hu
  have hu : u ∈ layA x := by simpa using hu
  unfold layA layH hd at hu
  simp only [List.mem_append, List.mem_cons, List.mem_map, List.not_mem_nil, or_false] at hu
  rcases hu with rfl | ((rfl | rfl | rfl | rfl | rfl | rfl) | ⟨y, _, rfl⟩) | rfl | rfl <;> rfl
theorem layA_hd {w : World} {b : Nat} {x : AA} {t : TypeId} {fr : Nat × Nat} (h : w.heap[b]? = some (.cells (layA x).toArray t fr)) : w.rangeAt b 1 (layH x.2.1) := fun j v hj => by
  rw [cell_of h, List.getElem?_toArray]
  unfold layA
  rw [Nat.add_comm, List.getElem?_cons_succ, List.getElem?_append_left (List.getElem?_eq_some_iff.1 hj).1]
  exact hj
theorem layA_fr {w : World} {b : Nat} {x : AA} {t : TypeId} {fr : Nat × Nat} (h : w.heap[b]? = some (.cells (layA x).toArray t fr)) (hm : x.2.1.2.2.2.2.2.2.1.length = 32) : w.cell? ⟨b, 39, none⟩ = some (.int .i64 x.2.2.1) ∧ w.cell? ⟨b, 40, none⟩ = some x.2.2.2.1.val := by
  have h38 : (layH x.2.1).length = 38 := hd_len _ _ _ _ _ _ _ hm
  constructor
  · rw [cell_of h, List.getElem?_toArray]
    unfold layA
    rw [show (39 : Nat) = 38 + 1 from rfl, List.getElem?_cons_succ, List.getElem?_append_right (by rw [h38]; exact Nat.le_refl _), h38]
    rfl
  · rw [cell_of h, List.getElem?_toArray]
    unfold layA
    rw [show (40 : Nat) = 39 + 1 from rfl, List.getElem?_cons_succ, List.getElem?_append_right (by rw [h38]; decide), h38]
    rfl
end Pl
end Go.Proofs.YtdpkklinpbmkfaaGreatDoor
