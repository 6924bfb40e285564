/-
  The document's list in memory.
-/
import Derived.Test.YtgpimeobkacniaaSqV
import Derived.Test.YtgpimeobkacniaaRows4
set_option linter.unusedVariables false
set_option linter.unusedSimpArgs false
namespace Go.Proofs.Ytgpimeobkacniaa
open Go.RowKit
namespace Sq
open Oct Ids Mp
open Mem (M It blk ids rows)
/-- A node with its id: its 66 cells. -/
def de (d : Dn) : List Value := d.u.map bv ++ ne d.x
theorem de_len (d : Dn) : (de d).length = 66 := by unfold de; rw [List.length_append, List.length_map, d.hu, ne_len]
theorem encD : St.Enc 66 de := by
  refine ⟨de_len, fun d v hv => ?_⟩
  unfold de at hv
  rcases List.mem_append.1 hv with hv | hv
  · obtain ⟨y, _, rfl⟩ := List.mem_map.1 hv
    rfl
  · exact encN.one d.x v hv
abbrev dz : Array Value := ((List.replicate 32 (0 : UInt8)).map bv ++ (Value.int .i64 0 :: ((List.replicate 32 (0 : UInt8)).map bv ++ [Value.string ByteArray.empty]))).toArray
theorem tyD : St.Ty 37 66 dz := ⟨⟨_, Try.underlying37, rfl⟩, by kernel_rfl, by kernel_rfl⟩
theorem slD : SlT Try.prog 28 37 (.agg dz) 66 88 := SlT.mk' Try.underlying28 (by kernel_rfl) rfl (by omega)
abbrev xsc (lv gv : Value) : Obj := .cells #[lv, gv] 31
abbrev rD (v : Value) (X : List Dn) : It := rows 37 66 de v X
abbrev xsit (b : Nat) (lv gv : Value) (X : List Dn) (G : List Wd) : List It := [blk b (xsc lv gv), rD lv X, ids gv G]
def xsfoot (b : Nat) (lv gv : Value) (k : Nat) : Prop := k = b ∨ lv.ownBlock = some k ∨ gv.ownBlock = some k
/-- What the document's list is, as it lies. -/
structure XsAt (w : World) (b : Nat) (lv gv : Value) (X : List Dn) (G : List Wd) : Prop where
  all : M (xsfoot b lv gv) w w (xsit b lv gv X G)
theorem xsfoot_of {b : Nat} {lv gv : Value} {X : List Dn} {G : List Wd} {i : Nat} {x : It} (hi : (xsit b lv gv X G)[i]? = some x) {k : Nat} (hk : x.foot k) : xsfoot b lv gv k := by
  match i, hi with
  | 0, hi => cases hi; exact .inl hk
  | 1, hi => cases hi; exact .inr (.inl hk)
  | 2, hi => cases hi; exact .inr (.inr hk)
theorem xsfoot_to {b : Nat} {lv gv : Value} {X : List Dn} {G : List Wd} {k : Nat} (hk : xsfoot b lv gv k) : ∃ (i : Nat) (y : It), (xsit b lv gv X G)[i]? = some y ∧ y.foot k := by
  rcases hk with hk | hk | hk
  · exact ⟨0, _, rfl, hk⟩
  · exact ⟨1, _, rfl, hk⟩
  · exact ⟨2, _, rfl, hk⟩
theorem mkXs {F : Nat → Prop} {w0 w : World} {b : Nat} {lv gv : Value} {X : List Dn} {G : List Wd} (h : M F w0 w (xsit b lv gv X G)) : XsAt w b lv gv X G :=
  ⟨⟨h.all, h.dis, fun i x hi k hk => ⟨.inr (xsfoot_of hi hk), (h.rng i x hi k hk).2⟩, Keep.refl _ _⟩⟩
/-- The document's list as one thing among others. -/
def xsI (b : Nat) (lv gv : Value) (X : List Dn) (G : List Wd) : It := ⟨xsfoot b lv gv, fun w => XsAt w b lv gv X G, fun w w' S h k n =>
  ⟨⟨fun i x hi => x.stable w w' S (h.all.all i x hi) k (fun j hj => n j (xsfoot_of hi hj)), h.all.dis, fun i x hi j hj => ⟨.inr (xsfoot_of hi hj), Nat.lt_of_lt_of_le (h.all.rng i x hi j hj).2 k.size⟩, Keep.refl _ _⟩⟩⟩
section
variable {w w' : World} {b : Nat} {lv gv : Value} {X : List Dn} {G : List Wd}
theorem XsAt.calm (h : XsAt w b lv gv X G) (k : Keep (fun _ => False) w w') : XsAt w' b lv gv X G := (xsI b lv gv X G).stable w w' _ h k (fun _ _ h => h)
theorem XsAt.cells (h : XsAt w b lv gv X G) : w.cell? ⟨b, 0, none⟩ = some lv ∧ w.cell? ⟨b, 1, none⟩ = some gv :=
  ⟨h.all.cell 0 rfl 0 rfl, h.all.cell 0 rfl 1 rfl⟩
theorem XsAt.row (h : XsAt w b lv gv X G) : ∃ a c, lv = .slice a X.length c ∧ St.At 66 de w a X.length X := (show St.Own _ _ _ w lv X from h.all.get 1 rfl).any
theorem XsAt.gone (h : XsAt w b lv gv X G) : Ids.Own w gv G := h.all.get 2 rfl
end
/-- What a call makes of it. -/
structure XSTo (w w' : World) (b : Nat) (lv gv lv' gv' : Value) (X' : List Dn) (G' : List Wd) : Prop where
  sq : XsAt w' b lv' gv' X' G'
  keep : Keep (xsfoot b lv gv) w w'
  foot : ∀ k, xsfoot b lv' gv' k → xsfoot b lv gv k ∨ (w.heap.size ≤ k ∧ k < w'.heap.size)
theorem XSTo.of {w w' : World} {b : Nat} {lv gv lv' gv' : Value} {X' : List Dn} {G' : List Wd} (h : M (xsfoot b lv gv) w w' (xsit b lv' gv' X' G')) : XSTo w w' b lv gv lv' gv' X' G' := by
  refine ⟨mkXs h, h.keep, fun k hk => ?_⟩
  obtain ⟨i, y, hi, hy⟩ := xsfoot_to (X := X') (G := G') hk
  have := h.rng i y hi k hy
  rcases this.1 with h1 | h1
  · exact .inr ⟨h1, this.2⟩
  · exact .inl h1
theorem XSTo.calm {w w' : World} {b : Nat} {lv gv : Value} {X : List Dn} {G : List Wd} (h : XsAt w b lv gv X G) (k : Keep (fun _ => False) w w') : XSTo w w' b lv gv lv gv X G :=
  ⟨h.calm k, ⟨k.os, k.tape, k.output, k.size, fun j hj _ => k.block j hj (fun h => h)⟩, fun _ h => .inl h⟩
theorem M.xs {F : Nat → Prop} {w0 w w' : World} {it : List It} (h : M F w0 w it) (i : Nat) {b : Nat} {lv gv lv' gv' : Value} {X X' : List Dn} {G G' : List Wd} (hi : it[i]? = some (xsI b lv gv X G)) (t : XSTo w w' b lv gv lv' gv' X' G') : M F w0 w' (it.set i (xsI b lv' gv' X' G')) :=
  h.upd i hi t.keep (fun _ h => h) (y := xsI b lv' gv' X' G') t.sq t.foot
/-- A new one. -/
theorem xsNew (w : World) : XsAt (w.alloc (xsc (.slice none 0 0) (.slice none 0 0))) w.heap.size (.slice none 0 0) (.slice none 0 0) [] [] :=
  mkXs ((((M.start (fun _ => False) w).alloc (xsc (.slice none 0 0) (.slice none 0 0)) rfl).nilR 37 66 de).nilI)
theorem M.xsnew {F : Nat → Prop} {w0 w : World} {it : List It} (h : M F w0 w it) {b : Nat} (hb : w.heap.size = b) : M F w0 (w.alloc (xsc (.slice none 0 0) (.slice none 0 0))) (it ++ [xsI b (.slice none 0 0) (.slice none 0 0) [] []]) := by
  subst hb
  refine h.add (x := xsI w.heap.size (.slice none 0 0) (.slice none 0 0) [] []) ((Keep.refl _ _).alloc _) (xsNew w) (fun k hk => ?_)
  rcases hk with hk | hk | hk
  · subst hk; simp
  · simp [Value.ownBlock] at hk
  · simp [Value.ownBlock] at hk
end Sq
end Go.Proofs.Ytgpimeobkacniaa
