/-
  The document's pen in memory.
-/
import Derived.Test.YtdpkklinpbmkfaaGreatDoorPn9
import Derived.Test.YtdpkklinpbmkfaaGreatDoorRows4
set_option linter.unusedVariables false
set_option linter.unusedSimpArgs false
namespace Go.Proofs.YtdpkklinpbmkfaaGreatDoor
open Go.RowKit
namespace Px
open Oct Ids Gn Hd Pn
open Mem (M It blk ids rows)

def eI (x : Wt) : List Value := x.id.map bv
def eF (x : Wt) : List Value := [.int .i64 x.fr]
theorem encH : St.Enc 38 hv := by
  refine ⟨hv_len, fun x u hu => ?_⟩
  unfold hv hd at hu
  simp only [List.mem_append, List.mem_cons, List.mem_map, List.not_mem_nil, or_false] at hu
  rcases hu with ((rfl | rfl | rfl | rfl | rfl | rfl) | ⟨y, _, rfl⟩) <;> rfl
theorem encI : St.Enc 32 eI := by
  refine ⟨fun x => by unfold eI; rw [List.length_map, x.hid], fun x u hu => ?_⟩
  obtain ⟨y, _, rfl⟩ := List.mem_map.1 hu
  rfl
theorem encF : St.Enc 1 eF := by
  refine ⟨fun x => rfl, fun x u hu => ?_⟩
  obtain rfl := List.mem_singleton.1 hu
  rfl
theorem slH : SlT Tryz.prog 22 30 (.agg hz0) 38 104 := SlT.mk' Tryz.underlying22 (by kernel_rfl) rfl (by omega)
theorem slI : SlT Tryz.prog 26 28 (.agg z32) 32 32 := slId
theorem slF : SlT Tryz.prog 44 3 (.int .i64 0) 1 8 := SlT.mk' Tryz.underlying44 (by kernel_rfl) rfl (by omega)
/-- Ids of waiters, as ids. -/
theorem at_ids {w : World} {a : Option Addr} {n : Nat} {L : List Wt} (h : St.At 32 eI w a n L) : At w a n (L.map fun x : Wt => x.id) := by
  refine ⟨by rw [List.length_map]; exact h.len, fun x hx => ?_, h.most, h.lay.imp id ?_⟩
  · obtain ⟨y, _, rfl⟩ := List.mem_map.1 hx
    exact y.hid
  · rintro ⟨b, off, ha, hb, hr⟩
    refine ⟨b, off, ha, hb, fun i x hi => ?_⟩
    rw [List.getElem?_map] at hi
    cases hy : L[i]? with
    | none => rw [hy] at hi; cases hi
    | some y =>
      rw [hy] at hi
      cases hi
      exact hr i y hy
abbrev xc (lv iv fv : Value) (lost : Int) : Obj := .cells #[lv, iv, fv, .int .i64 lost] 46
def rH (v : Value) (L : List Wt) : It := rows 30 38 hv v L
def rI (v : Value) (L : List Wt) : It := rows 28 32 eI v L
def rF (v : Value) (L : List Wt) : It := rows 3 1 eF v L
/-- The blocks that it takes up. -/
def xfoot (b : Nat) (lv iv fv : Value) (L : List Wt) (k : Nat) : Prop := k = b ∨ lv.ownBlock = some k ∨ iv.ownBlock = some k ∨ fv.ownBlock = some k ∨ ∃ x ∈ L, ∃ off, x.a = some ⟨k, off, none⟩
abbrev xit (b : Nat) (lv iv fv : Value) (L : List Wt) (lost : Int) : List It := [blk b (xc lv iv fv lost), rH lv L, rI iv L, rF fv L, pars L]
/-- What the document's pen is, as it lies. -/
structure XAt (w : World) (b : Nat) (lv iv fv : Value) (L : List Wt) (lost : Int) : Prop where
  all : M (xfoot b lv iv fv L) w w (xit b lv iv fv L lost)
theorem xfoot_of {b : Nat} {lv iv fv : Value} {L : List Wt} {lost : Int} {i : Nat} {x : It} (hi : (xit b lv iv fv L lost)[i]? = some x) {k : Nat} (hk : x.foot k) : xfoot b lv iv fv L k := by
  match i, hi with
  | 0, hi => cases hi; exact .inl hk
  | 1, hi => cases hi; exact .inr (.inl hk)
  | 2, hi => cases hi; exact .inr (.inr (.inl hk))
  | 3, hi => cases hi; exact .inr (.inr (.inr (.inl hk)))
  | 4, hi => cases hi; exact .inr (.inr (.inr (.inr hk)))
theorem xfoot_to {b : Nat} {lv iv fv : Value} {L : List Wt} {lost : Int} {k : Nat} (hk : xfoot b lv iv fv L k) : ∃ (i : Nat) (y : It), (xit b lv iv fv L lost)[i]? = some y ∧ y.foot k := by
  rcases hk with hk | hk | hk | hk | hk
  · exact ⟨0, _, rfl, hk⟩
  · exact ⟨1, _, rfl, hk⟩
  · exact ⟨2, _, rfl, hk⟩
  · exact ⟨3, _, rfl, hk⟩
  · exact ⟨4, _, rfl, hk⟩
theorem mkX {F : Nat → Prop} {w0 w : World} {b : Nat} {lv iv fv : Value} {L : List Wt} {lost : Int} (h : M F w0 w (xit b lv iv fv L lost)) : XAt w b lv iv fv L lost :=
  ⟨⟨h.all, h.dis, fun i x hi k hk => ⟨.inr (xfoot_of hi hk), (h.rng i x hi k hk).2⟩, Keep.refl _ _⟩⟩
/-- The document's pen as one thing among others. -/
def xpI (b : Nat) (lv iv fv : Value) (L : List Wt) (lost : Int) : It := ⟨xfoot b lv iv fv L, fun w => XAt w b lv iv fv L lost, fun w w' S h k n =>
  ⟨⟨fun i x hi => x.stable w w' S (h.all.all i x hi) k (fun j hj => n j (xfoot_of hi hj)), h.all.dis, fun i x hi j hj => ⟨.inr (xfoot_of hi hj), Nat.lt_of_lt_of_le (h.all.rng i x hi j hj).2 k.size⟩, Keep.refl _ _⟩⟩⟩
section
variable {w w' : World} {b : Nat} {lv iv fv : Value} {L : List Wt} {lost : Int}
theorem XAt.calm (h : XAt w b lv iv fv L lost) (k : Keep (fun _ => False) w w') : XAt w' b lv iv fv L lost := (xpI b lv iv fv L lost).stable w w' _ h k (fun _ _ h => h)
theorem XAt.cells (h : XAt w b lv iv fv L lost) : w.cell? ⟨b, 0, none⟩ = some lv ∧ w.cell? ⟨b, 1, none⟩ = some iv ∧ w.cell? ⟨b, 2, none⟩ = some fv ∧ w.cell? ⟨b, 3, none⟩ = some (.int .i64 lost) :=
  ⟨h.all.cell 0 rfl 0 rfl, h.all.cell 0 rfl 1 rfl, h.all.cell 0 rfl 2 rfl, h.all.cell 0 rfl 3 rfl⟩
theorem XAt.rowH (h : XAt w b lv iv fv L lost) : ∃ a c, lv = .slice a L.length c ∧ St.At 38 hv w a L.length L := (show St.Own _ _ _ w lv L from h.all.get 1 rfl).any
theorem XAt.rowI (h : XAt w b lv iv fv L lost) : ∃ a c, iv = .slice a L.length c ∧ St.At 32 eI w a L.length L := (show St.Own _ _ _ w iv L from h.all.get 2 rfl).any
theorem XAt.rowF (h : XAt w b lv iv fv L lost) : ∃ a c, fv = .slice a L.length c ∧ St.At 1 eF w a L.length L := (show St.Own _ _ _ w fv L from h.all.get 3 rfl).any
theorem XAt.par (h : XAt w b lv iv fv L lost) : ∀ x ∈ L, At w x.a x.n x.l := h.all.get 4 rfl
end
theorem pack_x {F : Nat → Prop} {w0 w : World} {l : List It} {b : Nat} {lv iv fv : Value} {L : List Wt} {lost : Int} (h : M F w0 w (l ++ xit b lv iv fv L lost)) : M F w0 w (l ++ [xpI b lv iv fv L lost]) := by
  have h3 := h.drop l.length
  rw [List.drop_left] at h3
  exact h.pack _ (mkX h3) (fun k hk => xfoot_to hk)
/-- What a call makes of it. -/
def XTo (w w' : World) (b : Nat) (lv iv fv : Value) (L : List Wt) (lv' iv' fv' : Value) (L' : List Wt) (lost' : Int) : Prop := XAt w' b lv' iv' fv' L' lost' ∧ Keep (xfoot b lv iv fv L) w w' ∧ ∀ k, xfoot b lv' iv' fv' L' k → xfoot b lv iv fv L k ∨ (w.heap.size ≤ k ∧ k < w'.heap.size)
theorem xTo {w w' : World} {b : Nat} {lv iv fv : Value} {L : List Wt} {lv' iv' fv' : Value} {L' : List Wt} {lost' : Int} (h : M (xfoot b lv iv fv L) w w' (xit b lv' iv' fv' L' lost')) : XTo w w' b lv iv fv L lv' iv' fv' L' lost' := by
  refine ⟨mkX h, h.keep, fun k hk => ?_⟩
  obtain ⟨i, y, hi, hy⟩ := xfoot_to (lost := lost') hk
  have := h.rng i y hi k hy
  rcases this.1 with h1 | h1
  · exact .inr ⟨h1, this.2⟩
  · exact .inl h1
theorem M.xp {F : Nat → Prop} {w0 w w' : World} {it : List It} (h : M F w0 w it) (i : Nat) {b : Nat} {lv iv fv : Value} {L : List Wt} {lost : Int} (hi : it[i]? = some (xpI b lv iv fv L lost)) {lv' iv' fv' : Value} {L' : List Wt} {lost' : Int} (t : XTo w w' b lv iv fv L lv' iv' fv' L' lost') : M F w0 w' (it.set i (xpI b lv' iv' fv' L' lost')) :=
  h.upd i hi t.2.1 (fun _ h => h) (y := xpI b lv' iv' fv' L' lost') t.1 t.2.2
/-- A new one. -/
theorem xNew (w : World) : XAt (w.alloc (xc (.slice none 0 0) (.slice none 0 0) (.slice none 0 0) 0)) w.heap.size (.slice none 0 0) (.slice none 0 0) (.slice none 0 0) [] 0 :=
  mkX ((((((M.start (fun _ => False) w).alloc (xc (.slice none 0 0) (.slice none 0 0) (.slice none 0 0) 0) rfl).nilR 30 38 hv).nilR 28 32 eI).nilR 3 1 eF).add (x := pars []) (Keep.refl _ _) (fun x hx => by cases hx) (fun k ⟨x, hx, _⟩ => by cases hx))
end Px
end Go.Proofs.YtdpkklinpbmkfaaGreatDoor
