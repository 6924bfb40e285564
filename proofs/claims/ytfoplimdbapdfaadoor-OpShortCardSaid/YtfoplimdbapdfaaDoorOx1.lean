/-
  Operations: what a kind has: op.of, op.spare, op.number.
-/
import Derived.Test.YtfoplimdbapdfaaDoorGMm
set_option linter.unusedVariables false
set_option linter.unusedSimpArgs false
namespace Go.Proofs.YtfoplimdbapdfaaDoor
open Go.RowKit
namespace Ox
open Oct Ids

theorem empty_of {B : ByteArray} (h : B.size = 0) : B = ByteArray.empty := by
  apply ByteArray.ext
  exact Array.eq_empty_of_size_eq_zero h
theorem list_ne {B : ByteArray} (h : B.size ≠ 0) : ¬ B.toList = [] := by
  rw [Lib.toList_data]
  intro e
  exact h (by show B.data.size = 0; rw [← Array.length_toList, e]; rfl)
theorem list_ne2 {B : ByteArray} (h : B.size ≠ 0) : B.toList.isEmpty = false := by
  have := list_ne h
  cases hb : B.toList with
  | nil => exact absurd hb this
  | cons _ _ => rfl
/-- The cells of an operation. -/
def oc (K N : Int) (Y V : ByteArray) (r : List UInt8) (rv : Value) : List Value := [.int .i64 K, .int .i64 N, .string Y, .string V] ++ (r.map bv ++ [rv])
theorem oc_len (K N : Int) (Y V : ByteArray) (r : List UInt8) (rv : Value) (hr : r.length = 32) : (oc K N Y V r rv).length = 37 := by unfold oc; simp [hr]
/-- An operation in memory. -/
structure OAt (w : World) (b : Nat) (K N : Int) (Y V : ByteArray) (r : List UInt8) (rv : Value) : Prop where
  blk : w.heap[b]? = some (.cells (oc K N Y V r rv).toArray 27 (0, 0))
  len : r.length = 32
section
variable {w : World} {b : Nat} {K N : Int} {Y V : ByteArray} {r : List UInt8} {rv : Value}
theorem OAt.keep (h : OAt w b K N Y V r rv) {w' : World} {S : Nat → Prop} (k : Keep S w w') (hn : ¬ S b) : OAt w' b K N Y V r rv := ⟨k.get h.blk hn, h.len⟩
theorem OAt.calm (h : OAt w b K N Y V r rv) {w' : World} (k : Keep (fun _ => False) w w') : OAt w' b K N Y V r rv := h.keep k (fun h => h)
theorem OAt.cells (h : OAt w b K N Y V r rv) : w.cell? ⟨b, 0, none⟩ = some (.int .i64 K) ∧ w.cell? ⟨b, 1, none⟩ = some (.int .i64 N) ∧ w.cell? ⟨b, 2, none⟩ = some (.string Y) ∧ w.cell? ⟨b, 3, none⟩ = some (.string V) ∧ w.cell? ⟨b, 36, none⟩ = some rv :=
  ⟨by rw [cell_of h.blk]; rfl, by rw [cell_of h.blk]; rfl, by rw [cell_of h.blk]; rfl, by rw [cell_of h.blk]; rfl, by
    rw [cell_of h.blk, List.getElem?_toArray]
    unfold oc
    rw [List.getElem?_append_right (by simp), List.getElem?_append_right (by simp [h.len])]
    simp [h.len]⟩
theorem OAt.ref (h : OAt w b K N Y V r rv) : w.rangeAt b 4 (r.map bv) := fun j v hj => by
  have hj' := (List.getElem?_eq_some_iff.1 hj).1
  rw [cell_of h.blk, List.getElem?_toArray]
  unfold oc
  rw [List.getElem?_append_right (by simp), List.getElem?_append_left (by simpa using hj')]
  simpa using hj
theorem OAt.all (h : OAt w b K N Y V r rv) : w.rangeAt b 0 (oc K N Y V r rv) := fun j v hj => by
  rw [Nat.zero_add, cell_of h.blk, List.getElem?_toArray]
  exact hj
theorem OAt.new (w : World) (hr : r.length = 32) : OAt (w.alloc (.cells (oc K N Y V r rv).toArray 27)) w.heap.size K N Y V r rv := ⟨heap_alloc_new w _, hr⟩
end
section
variable {ops : Array Oper} {rest : List Oper} {op : Oper} {a : Act} {w : World} {Q : Exit → Act → World → Prop}
/-- 'load an id', guarded or not. -/
theorem wl_loadG (hw : Region.wanted op (yielded ops a.tmps) = true) {x : Operand} (ho : op.op = .load 24 x) {b o : Nat} (hx : a.eval x = .pointer (some ⟨b, o, none⟩)) {l : List UInt8} (hl : l.length = 32) (hr : w.rangeAt b o (l.map bv))
    (h : wpList Tryd.prog ops Q rest (a.put op.dst (idv l)) w) : wpList Tryd.prog ops Q (op :: rest) a w :=
  wpList_step fun K hK => by
    rw [if_pos hw]
    exact wp_load_mid _ x ho b o hx (l.map bv) _ hr Tryd.underlying24 rfl (by rw [info32, List.length_map, hl]) (hK _ _ h)
end
def Z32 : List UInt8 := List.replicate 32 0
theorem neq_z (c : List UInt8) (hc : c.length = 32) (v : Bool) (hv : (!(c == Z32)) = v) : ∀ w, Sem.run Tryd.prog (binOp .neq 24 (idv c) (.agg z32)) w = .ok (.bool v) w := fun w => hv ▸ neq_id w c Z32 hc rfl
theorem ne_zf {c : List UInt8} (h : c = Z32) : (!(c == Z32)) = false := by subst h; rfl
theorem ne_zt {c : List UInt8} (h : ¬ c = Z32) : (!(c == Z32)) = true := by simpa using h
/-- What kinds have: number, key, value, ref, refs. -/
def iN (K : Int) : Bool := decide (K = 1 ∨ K = 4)
def iK (K : Int) : Bool := decide (K = 4 ∨ K = 5)
def iV (K : Int) : Bool := decide (2 ≤ K ∧ K ≤ 6)
def iR (K : Int) : Bool := decide (K = 6 ∨ K = 7)
def iS (K : Int) : Bool := decide (K = 3 ∨ K = 5)
def PT : List Int := [0, 1, 4, 20, 7, 22, 12, 8]
def pk (K : Int) : Int := if K < 0 ∨ 7 < K then 0 else PT.getD K.toNat 0
/-- The table, as it was laid. -/
def TabP (w : World) : Prop := 0 < w.heap.size ∧ w.rangeAt 0 0 (PT.map (Value.int .i64))
theorem TabP.keep {S : Nat → Prop} {w w' : World} (h : TabP w) (k : Keep S w w') (hn : ¬ S 0) : TabP w' :=
  ⟨Nat.lt_of_lt_of_le h.1 k.size, k.range h.1 hn h.2⟩
theorem TabP.calm {w w' : World} (h : TabP w) (k : Keep (fun _ => False) w w') : TabP w' := h.keep k (fun h => h)
set_option maxRecDepth 100000 in
theorem of_any (w : World) (hT : TabP w) (K : Int) : Calls Tryd.prog 39 #[.int .i64 K] w fun e w' => e = .returned (.int .i64 (pk K)) ∧ w' = w := by
  rcases (by omega : K < 0 ∨ 7 < K ∨ K = 0 ∨ K = 1 ∨ K = 2 ∨ K = 3 ∨ K = 4 ∨ K = 5 ∨ K = 6 ∨ K = 7) with h | h | rfl | rfl | rfl | rfl | rfl | rfl | rfl | rfl
  · rw [show pk K = 0 from if_pos (.inl h)]
    go_enter Tryd.func39, Tryd.ntmps39
    go_wp2
    go_ret
    exact ⟨rfl, rfl⟩
  · rw [show pk K = 0 from if_pos (.inr h)]
    go_enter Tryd.func39, Tryd.ntmps39
    go_wp2
    go_ret
    exact ⟨rfl, rfl⟩
  · have c := hT.2 0 _ rfl
    go_enter Tryd.func39, Tryd.ntmps39
    go_wp2
    go_ret
    exact ⟨rfl, rfl⟩
  · have c := hT.2 1 _ rfl
    go_enter Tryd.func39, Tryd.ntmps39
    go_wp2
    go_ret
    exact ⟨rfl, rfl⟩
  · have c := hT.2 2 _ rfl
    go_enter Tryd.func39, Tryd.ntmps39
    go_wp2
    go_ret
    exact ⟨rfl, rfl⟩
  · have c := hT.2 3 _ rfl
    go_enter Tryd.func39, Tryd.ntmps39
    go_wp2
    go_ret
    exact ⟨rfl, rfl⟩
  · have c := hT.2 4 _ rfl
    go_enter Tryd.func39, Tryd.ntmps39
    go_wp2
    go_ret
    exact ⟨rfl, rfl⟩
  · have c := hT.2 5 _ rfl
    go_enter Tryd.func39, Tryd.ntmps39
    go_wp2
    go_ret
    exact ⟨rfl, rfl⟩
  · have c := hT.2 6 _ rfl
    go_enter Tryd.func39, Tryd.ntmps39
    go_wp2
    go_ret
    exact ⟨rfl, rfl⟩
  · have c := hT.2 7 _ rfl
    go_enter Tryd.func39, Tryd.ntmps39
    go_wp2
    go_ret
    exact ⟨rfl, rfl⟩
/-- May its number be? -/
def nb (K N : Int) : Bool := !(decide (K = 4 ∧ N < 0)) && decide (N < 2147483648 ∧ -2147483648 ≤ N)
set_option maxRecDepth 100000 in
theorem number_any (w : World) (K N : Int) (Y V : ByteArray) (r : List UInt8) (rv : Value) (hr : r.length = 32) (v : Bool) (hv : nb K N = v) :
    Calls Tryd.prog 57 #[.agg (oc K N Y V r rv).toArray] w fun e w' => e = .returned (.bool v) ∧ Keep (fun _ => False) w w' := by
  have E0 : Hid _ := OAt.new (K := K) (N := N) (Y := Y) (V := V) (rv := rv) w hr
  generalize hX : (oc K N Y V r rv).toArray = X at E0 ⊢
  obtain ⟨g0, g1, g2, g3, g36⟩ := E0.out.cells
  have HV : Hid _ := hv
  clear hX hr hv
  rcases (by omega : (K = 4 ∧ N < 0) ∨ (K = 4 ∧ 0 ≤ N ∧ N < 2147483648) ∨ (K = 4 ∧ 2147483648 ≤ N) ∨ (K ≠ 4 ∧ N < -2147483648) ∨ (K ≠ 4 ∧ -2147483648 ≤ N ∧ N < 2147483648) ∨ (K ≠ 4 ∧ 2147483648 ≤ N)) with ⟨rfl, h⟩ | ⟨rfl, h1, h2⟩ | ⟨rfl, h⟩ | ⟨h0, h⟩ | ⟨h0, h1, h2⟩ | ⟨h0, h⟩
  · have e : v = false := by rw [← HV.out]; unfold nb; simp; omega
    subst e
    go_enter Tryd.func57, Tryd.ntmps57
    go_wp2
    go_ret
    exact ⟨by first | rfl | (simp; omega), (Keep.refl _ _).alloc _⟩
  · have e : v = true := by rw [← HV.out]; unfold nb; simp; omega
    subst e
    go_enter Tryd.func57, Tryd.ntmps57
    go_wp2
    go_ret
    exact ⟨by first | rfl | (simp; omega), (Keep.refl _ _).alloc _⟩
  · have e : v = false := by rw [← HV.out]; unfold nb; simp; omega
    subst e
    go_enter Tryd.func57, Tryd.ntmps57
    go_wp2
    go_ret
    exact ⟨by first | rfl | (simp; omega), (Keep.refl _ _).alloc _⟩
  · have e : v = false := by rw [← HV.out]; unfold nb; simp; omega
    have hk : (K == 4) = false := by simpa using h0
    subst e
    clear h0
    go_enter Tryd.func57, Tryd.ntmps57
    go_wp2
    go_ret
    exact ⟨by first | rfl | (simp; omega), (Keep.refl _ _).alloc _⟩
  · have e : v = true := by rw [← HV.out]; unfold nb; simp; omega
    have hk : (K == 4) = false := by simpa using h0
    subst e
    clear h0
    go_enter Tryd.func57, Tryd.ntmps57
    go_wp2
    go_ret
    exact ⟨by first | rfl | (simp; omega), (Keep.refl _ _).alloc _⟩
  · have e : v = false := by rw [← HV.out]; unfold nb; simp; omega
    have hk : (K == 4) = false := by simpa using h0
    subst e
    clear h0
    go_enter Tryd.func57, Tryd.ntmps57
    go_wp2
    go_ret
    exact ⟨by first | rfl | (simp; omega), (Keep.refl _ _).alloc _⟩
/-- Is something not zero that its kind has not? -/
def sp (K N : Int) (Y V : ByteArray) (r : List UInt8) (n : Nat) : Bool := (!iN K && decide (N ≠ 0)) || (!iK K && decide (Y.size ≠ 0)) || (!iV K && decide (V.size ≠ 0)) || (!iR K && decide (r ≠ Z32)) || (!iS K && decide (0 < n))
end Ox
end Go.Proofs.YtfoplimdbapdfaaDoor
