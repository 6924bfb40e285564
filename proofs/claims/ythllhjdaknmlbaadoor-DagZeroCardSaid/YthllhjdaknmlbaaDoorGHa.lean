/-
  General helpers: does a row of ids rise; texts that are empty; loads of ids. Headers: header.Ahead, petrelref08.Ahead; the rules. header.rules, each rule.
-/
import Derived.Test.YthllhjdaknmlbaaDoorGIf
import Derived.Test.YthllhjdaknmlbaaDoorGRf
import Derived.Test.YthllhjdaknmlbaaDoorGMm
import Derived.Lib.Strings
import Derived.Test.YthllhjdaknmlbaaDoorGTp
import Derived.Test.YthllhjdaknmlbaaDoorGTx
import Derived.Test.YthllhjdaknmlbaaDoorGS2
set_option linter.unusedVariables false
set_option linter.unusedSimpArgs false

namespace Go.Proofs.YthllhjdaknmlbaaDoor
open Go.RowKit
namespace Gn
open Oct Ids

theorem empty_of {B : ByteArray} (h : B.size = 0) : B = ByteArray.empty := by
  apply ByteArray.ext
  exact Array.eq_empty_of_size_eq_zero h
theorem list_ne {B : ByteArray} (h : B.size ≠ 0) : ¬ B.toList = [] := by
  rw [Lib.toList_data]
  intro e
  exact h (by show B.data.size = 0; rw [← Array.length_toList, e]; rfl)
theorem list_ne2 {B : ByteArray} (h : B.size ≠ 0) : B.toList.isEmpty = false := by
  have := list_ne h
  cases hb : B.toList with
  | nil => exact absurd hb this
  | cons _ _ => rfl
/-- Is the next operation a load of that type? (with_reducible: to keep an arm from being tried elsewhere) -/
theorem at_load {P : Program} {ops : Array Oper} {Q : Exit → Act → World → Prop} {d : Option Tmp} {ty : TypeId} {p : String} {x : Operand} {af} {g} {rest : List Oper} {a : Act} {w : World} (T : TypeId) (h : wpList P ops Q ({ dst := d, op := .load T x, type := ty, pos := p, after := af, guard := g } :: rest) a w) : wpList P ops Q ({ dst := d, op := .load T x, type := ty, pos := p, after := af, guard := g } :: rest) a w := h
section
variable {ops : Array Oper} {rest : List Oper} {op : Oper} {a : Act} {w : World} {Q : Exit → Act → World → Prop}
/-- 'load an id', guarded or not. -/
theorem wl_loadG (hw : Region.wanted op (yielded ops a.tmps) = true) {x : Operand} (ho : op.op = .load 24 x) {b o : Nat} (hx : a.eval x = .pointer (some ⟨b, o, none⟩)) {l : List UInt8} (hl : l.length = 32) (hr : w.rangeAt b o (l.map bv))
    (h : wpList Tryd.prog ops Q rest (a.put op.dst (idv l)) w) : wpList Tryd.prog ops Q (op :: rest) a w :=
  wpList_step fun K hK => by
    rw [if_pos hw]
    exact wp_load_mid _ x ho b o hx (l.map bv) _ hr Tryd.underlying24 rfl (by rw [info32, List.length_map, hl]) (hK _ _ h)
end
def Z32 : List UInt8 := List.replicate 32 0
theorem emp_iff (B : ByteArray) : B.toList = [] ↔ B.size = 0 := by
  constructor
  · intro h
    exact Classical.byContradiction fun e => list_ne e h
  · intro h
    rw [empty_of h, Lib.toList_data]
    rfl
/-- Does it rise? -/
def isL (l : List (List UInt8)) : Bool := decide (l = IdL.setL l)
theorem is_v (w : World) (a : Option Addr) (n c : Nat) (l : List (List UInt8)) (h : At w a n l) (hm : n ≤ 1000000) (v : Bool) (hv : isL l = v) :
    Calls Tryd.prog 60 #[.slice a n c] w fun e w' => e = .returned (.bool v) ∧ Keep (fun _ => False) w w' := by
  refine (is_any w a n c l h hm).mono ?_
  rintro e w' ⟨⟨r, rfl, hr⟩, k⟩
  refine ⟨?_, k⟩
  have e : r = v := by
    rw [← hv]
    unfold isL
    cases r with
    | true => exact (decide_eq_true ((IdL.srt_iff l).2 (hr.1 rfl)).symm).symm
    | false =>
      symm
      refine decide_eq_false fun e => ?_
      have := hr.2 ((IdL.srt_iff l).1 e.symm)
      cases this
  rw [e]
theorem ids_at {F : Nat → Prop} {w0 w : World} {it : List Mem.It} (h : Mem.M F w0 w it) (i : Nat) {va : Option Addr} {n vc : Nat} {l : List (List UInt8)} (hi : it[i]? = some (Mem.ids (.slice va n vc) l)) (hl : l.length = n) : At w va n l := by
  subst hl
  obtain ⟨a, c, e, hat, _⟩ := Own.at (h.get i hi)
  cases e
  exact hat
theorem at0 (w : World) : At w none 0 [] := ⟨rfl, by simp, Nat.zero_le _, .inl rfl⟩
theorem own_at {w : World} {va : Option Addr} {vc : Nat} {l : List (List UInt8)} (h : Own w (.slice va l.length vc) l) : At w va l.length l := by
  obtain ⟨a, c, e, hat, _⟩ := h.at
  cases e
  exact hat
theorem tyI : St.Ty 24 32 z32 := ⟨⟨_, Tryd.underlying24, rfl⟩, by kernel_rfl, rfl⟩
end Gn
end Go.Proofs.YthllhjdaknmlbaaDoor


namespace Go.Proofs.YthllhjdaknmlbaaDoor
open Go.RowKit
namespace Hd
open Oct Ids
open Mem (M blk)
open Gn
open Tp (tk)

/-- The cells of a header. -/
def hd (pv : Value) (G : Int) (T : ByteArray) (A Q Z : Int) (m : List UInt8) : List Value := [pv, .int .i64 G, .string T, .int .i64 A, .int .i64 Q, .int .i64 Z] ++ m.map bv
theorem hd_len (pv : Value) (G : Int) (T : ByteArray) (A Q Z : Int) (m : List UInt8) (hm : m.length = 32) : (hd pv G T A Q Z m).length = 38 := by unfold hd; simp [hm]
theorem hd_sz {pv : Value} {G : Int} {T : ByteArray} {A Q Z : Int} {m : List UInt8} (hm : m.length = 32) : (hd pv G T A Q Z m).toArray.size = 38 := by rw [List.size_toArray, hd_len _ _ _ _ _ _ _ hm]
theorem hd_one (a : Option Addr) (n c : Nat) (G : Int) (T : ByteArray) (A Q Z : Int) (m : List UInt8) : (hd (.slice a n c) G T A Q Z m).toArray.all (·.oneCell') = true := by unfold hd; simp [bv, Value.oneCell']
/-- A header in memory. -/
structure HAt (w : World) (b : Nat) (pv : Value) (G : Int) (T : ByteArray) (A Q Z : Int) (m : List UInt8) : Prop where
  blk : w.heap[b]? = some (.cells (hd pv G T A Q Z m).toArray 26 (0, 0))
  len : m.length = 32
section
variable {w : World} {b : Nat} {pv : Value} {G : Int} {T : ByteArray} {A Q Z : Int} {m : List UInt8}
theorem HAt.keep (h : HAt w b pv G T A Q Z m) {w' : World} {S : Nat → Prop} (k : Keep S w w') (hn : ¬ S b) : HAt w' b pv G T A Q Z m := ⟨k.get h.blk hn, h.len⟩
theorem HAt.calm (h : HAt w b pv G T A Q Z m) {w' : World} (k : Keep (fun _ => False) w w') : HAt w' b pv G T A Q Z m := h.keep k (fun h => h)
theorem HAt.cells (h : HAt w b pv G T A Q Z m) : w.cell? ⟨b, 0, none⟩ = some pv ∧ w.cell? ⟨b, 1, none⟩ = some (.int .i64 G) ∧ w.cell? ⟨b, 2, none⟩ = some (.string T) ∧ w.cell? ⟨b, 3, none⟩ = some (.int .i64 A) ∧ w.cell? ⟨b, 4, none⟩ = some (.int .i64 Q) ∧ w.cell? ⟨b, 5, none⟩ = some (.int .i64 Z) :=
  ⟨by rw [cell_of h.blk]; rfl, by rw [cell_of h.blk]; rfl, by rw [cell_of h.blk]; rfl, by rw [cell_of h.blk]; rfl, by rw [cell_of h.blk]; rfl, by rw [cell_of h.blk]; rfl⟩
theorem HAt.commit (h : HAt w b pv G T A Q Z m) : w.rangeAt b 6 (m.map bv) := fun j v hj => by
  rw [cell_of h.blk, List.getElem?_toArray]
  unfold hd
  rw [List.getElem?_append_right (by simp)]
  simpa using hj
theorem HAt.all (h : HAt w b pv G T A Q Z m) : w.rangeAt b 0 (hd pv G T A Q Z m) := fun j v hj => by
  rw [Nat.zero_add, cell_of h.blk, List.getElem?_toArray]
  exact hj
theorem HAt.new (w : World) (hm : m.length = 32) : HAt (w.alloc (.cells (hd pv G T A Q Z m).toArray 26)) w.heap.size pv G T A Q Z m := ⟨heap_alloc_new w _, hm⟩
end
abbrev hz0 : Array Value := (hd (.slice none 0 0) 0 ByteArray.empty 0 0 0 Z32).toArray
theorem tyH : St.Ty 26 38 hz0 := ⟨⟨_, Tryd.underlying26, rfl⟩, by kernel_rfl, by kernel_rfl⟩
/-- Does the first one stand ahead? -/
def ah (x : Int) (a : List UInt8) (y : Int) (b : List UInt8) : Bool := decide (x < y) || (x == y && decide (IdL.cmpL a b < 0))
set_option maxRecDepth 100000 in
theorem ahead_any (w : World) (x y : Int) (a b : List UInt8) (ha : a.length = 32) (hb : b.length = 32) (v : Bool) (hv : ah x a y b = v) :
    Calls Tryd.prog 34 #[.int .i64 x, idv a, .int .i64 y, idv b] w fun e w' => e = .returned (.bool v) ∧ Keep (fun _ => False) w w' := by
  have HM : Hid (M (fun _ => False) w _ [blk w.heap.size (.cells (a.map bv).toArray 24), blk (w.heap.size + 1) (.cells (b.map bv).toArray 24)]) := ((M.start _ w).alloc (.cells (a.map bv).toArray 24) rfl).alloc (.cells (b.map bv).toArray 24) (by simp)
  have La : Hid (a.length = 32) := ha
  have Lb : Hid (b.length = 32) := hb
  have HV : Hid (ah x a y b = v) := hv
  have Hc : Hid (∀ w, _) := fun w => compare_any w a b ha hb
  clear ha hb hv
  obtain ⟨q, hq⟩ : ∃ q, IdL.cmpL a b = q := ⟨_, rfl⟩
  have Hq : Hid _ := hq
  rw [hq] at Hc
  clear hq
  go_enter Tryd.func34, Tryd.ntmps34
  go_wp2_with (first | ((with_reducible refine at_load 24 ?_); first | (refine Ids.wl_load rfl rfl rfl La.out (HM.out.range 0 rfl) ?_; simp only [Act.put, List.setIfInBounds_toArray, List.set_cons_zero, List.set_cons_succ]) | (refine Ids.wl_load rfl rfl rfl Lb.out (HM.out.range 1 rfl) ?_; simp only [Act.put, List.setIfInBounds_toArray, List.set_cons_zero, List.set_cons_succ])) | (go_at_call 57; refine (Hc.out _).mono ?_; rintro e w1 ⟨rfl, k1⟩; have HM : Hid _ := HM.out.calm k1.keep; clear k1))
  all_goals
    go_ret
    refine ⟨?_, HM.out.keep⟩
    have e := HV.out
    have e2 := Hq.out
    unfold ah at e
    rw [e2] at e
    subst e
    first | (simp_all; done) | (simp_all; omega)
end Hd
end Go.Proofs.YthllhjdaknmlbaaDoor


namespace Go.Proofs.YthllhjdaknmlbaaDoor
open Go.RowKit
namespace Hd
open Oct Ids Gn
open Mem (M blk)
open Tp (tk)

/-- What a header must keep: the rules, broken or not. -/
def k1 (n : Nat) : Bool := decide (4 < n)
def k3 (G : Int) : Bool := decide (G < 1 ∨ 1073741824 < G)
def k4 (n : Nat) (G : Int) : Bool := (n == 0) != (G == 1)
def k5 (T : ByteArray) : Bool := decide (tk T = 0)
def k6 (A : Int) : Bool := decide (A < 0 ∨ 255 < A)
def k7 (Q : Int) : Bool := decide (Q < 1 ∨ 1073741824 < Q)
def k8 (Z : Int) : Bool := decide (Z < 1 ∨ 512 < Z)
set_option maxRecDepth 100000 in
set_option maxHeartbeats 1000000 in
theorem rule_1 (w : World) (rb hb : Nat) (a : Option Addr) (n c : Nat) (G : Int) (T : ByteArray) (A Q Z : Int) (m : List UInt8) (hr : w.cell? ⟨rb, 0, none⟩ = some (.pointer (some ⟨hb, 0, none⟩))) (h : HAt w hb (.slice a n c) G T A Q Z m) (v : Bool) (hv : k1 n = v) :
    Calls Tryd.prog 58 #[.pointer (some ⟨rb, 0, none⟩)] w fun e w' => e = .returned (.bool v) ∧ Keep (fun _ => False) w w' := by
  obtain ⟨g0, g1, g2, g3, g4, g5⟩ := h.cells
  have HV : Hid (k1 n = v) := hv
  clear hv h
  go_enter Tryd.func58, Tryd.ntmps58
  go_wp2
  all_goals
    go_ret
    refine ⟨?_, Keep.refl _ _⟩
    have e := HV.out
    unfold k1 at e
    subst e
    first | (simp; done) | (simp; omega) | (trace_state; rfl)
set_option maxRecDepth 100000 in
set_option maxHeartbeats 1000000 in
theorem rule_2 (w : World) (rb hb : Nat) (a : Option Addr) (n c : Nat) (G : Int) (T : ByteArray) (A Q Z : Int) (m : List UInt8) (hr : w.cell? ⟨rb, 0, none⟩ = some (.pointer (some ⟨hb, 0, none⟩))) (h : HAt w hb (.slice a n c) G T A Q Z m) (l : List (List UInt8)) (hA : At w a n l) (hn : n ≤ 1000000) (v : Bool) (hv : isL l = !v) :
    Calls Tryd.prog 59 #[.pointer (some ⟨rb, 0, none⟩)] w fun e w' => e = .returned (.bool v) ∧ Keep (fun _ => False) w w' := by
  obtain ⟨g0, g1, g2, g3, g4, g5⟩ := h.cells
  have Hi : Hid (isL l = !v) := hv
  have A1 : Hid _ := hA
  clear hv h hA
  go_enter Tryd.func59, Tryd.ntmps59
  go_wp2_with (first | (go_at_call 60; refine (is_v _ a n c l A1.out (by omega) (!v) Hi.out).mono ?_; rintro e w4 ⟨rfl, k1⟩; have HK : Hid _ := k1; clear k1))
  all_goals
    go_ret
    exact ⟨by first | rfl | (simp; done), HK.out⟩
set_option maxRecDepth 100000 in
set_option maxHeartbeats 1000000 in
theorem rule_3 (w : World) (rb hb : Nat) (a : Option Addr) (n c : Nat) (G : Int) (T : ByteArray) (A Q Z : Int) (m : List UInt8) (hr : w.cell? ⟨rb, 0, none⟩ = some (.pointer (some ⟨hb, 0, none⟩))) (h : HAt w hb (.slice a n c) G T A Q Z m) (v : Bool) (hv : k3 G = v) :
    Calls Tryd.prog 61 #[.pointer (some ⟨rb, 0, none⟩)] w fun e w' => e = .returned (.bool v) ∧ Keep (fun _ => False) w w' := by
  obtain ⟨g0, g1, g2, g3, g4, g5⟩ := h.cells
  have HV : Hid (k3 G = v) := hv
  clear hv h
  rcases (by omega : G < 1 ∨ (1 ≤ G ∧ G ≤ 1073741824) ∨ 1073741824 < G) with h | ⟨h, h'⟩ | h
  all_goals
    go_enter Tryd.func61, Tryd.ntmps61
    go_wp2
    go_ret
    refine ⟨?_, Keep.refl _ _⟩
    have e := HV.out
    unfold k3 at e
    first | (subst e; simp; done) | (subst e; simp; omega)
set_option maxRecDepth 100000 in
set_option maxHeartbeats 1000000 in
theorem rule_4 (w : World) (rb hb : Nat) (a : Option Addr) (n c : Nat) (G : Int) (T : ByteArray) (A Q Z : Int) (m : List UInt8) (hr : w.cell? ⟨rb, 0, none⟩ = some (.pointer (some ⟨hb, 0, none⟩))) (h : HAt w hb (.slice a n c) G T A Q Z m) (hn : n ≤ 4611686018427387904) (v : Bool) (hv : k4 n G = v) :
    Calls Tryd.prog 62 #[.pointer (some ⟨rb, 0, none⟩)] w fun e w' => e = .returned (.bool v) ∧ Keep (fun _ => False) w w' := by
  obtain ⟨g0, g1, g2, g3, g4, g5⟩ := h.cells
  have HV : Hid (k4 n G = v) := hv
  clear hv h
  go_enter Tryd.func62, Tryd.ntmps62
  go_wp2
  refine Txt.wp_region_text (fun _ => True) [1, 0, 0, 1, 0, 0, 1, 0, 0, 1, 0, 0, 0] (by kernel_rfl) (by kernel_rfl) trivial ?_
  (repeat (first | (refine Txt.tl_pure (v := ?_) (by rfl) ?_ ?_; rotate_left; (focus (intro _; go_simp; try with_reducible rfl)); simp only [Act.put, List.setIfInBounds_toArray, List.set_cons_zero, List.set_cons_succ]) | (refine Txt.tl_skip (by rfl) (by first | trivial | exact HS.out) ?_; simp only [Act.put, List.setIfInBounds_toArray, List.set_cons_zero, List.set_cons_succ]) | (refine Txt.tl_load (v := ?_) (by rfl) (by rfl) (by rfl) (by kernel_rfl) ?_ ?_; rotate_left; (focus (first | assumption | (go_simp; done) | (go_simp; with_reducible rfl))); simp only [Act.put, List.setIfInBounds_toArray, List.set_cons_zero, List.set_cons_succ]) | (refine Txt.tl_loadB (v := ?_) (by rfl) (by rfl) (by rfl) (by kernel_rfl) ?_ ?_; rotate_left; (focus assumption); simp only [Act.put, List.setIfInBounds_toArray, List.set_cons_zero, List.set_cons_succ])))
  refine Txt.tl_nil ?_
  go_wp2
  all_goals
    go_ret
    refine ⟨?_, (Keep.refl _ _).drew⟩
    have e := HV.out
    unfold k4 at e
    subst e
    have en : ((n : Int) == 0) = (n == 0) := by rw [Bool.eq_iff_iff]; simp
    show Ending.returned (Value.bool (!(((n : Int) == 0) == (G == 1)))) = _
    rw [en]
    rfl
set_option maxRecDepth 100000 in
set_option maxHeartbeats 1000000 in
theorem rule_5 (w : World) (rb hb : Nat) (a : Option Addr) (n c : Nat) (G : Int) (T : ByteArray) (A Q Z : Int) (m : List UInt8) (hr : w.cell? ⟨rb, 0, none⟩ = some (.pointer (some ⟨hb, 0, none⟩))) (h : HAt w hb (.slice a n c) G T A Q Z m) (hT : T.size ≤ maxLen) (v : Bool) (hv : k5 T = v) :
    Calls Tryd.prog 63 #[.pointer (some ⟨rb, 0, none⟩)] w fun e w' => e = .returned (.bool v) ∧ Keep (fun _ => False) w w' := by
  obtain ⟨g0, g1, g2, g3, g4, g5⟩ := h.cells
  obtain ⟨q, hq⟩ : ∃ q : Int, (if tk T = 0 then (9 : Int) else 0) = q := ⟨_, rfl⟩
  have hqv : (q != 0) = v := by
    rw [← hv, ← hq]
    unfold k5
    by_cases e : tk T = 0
    · rw [if_pos e, decide_eq_true e]; rfl
    · rw [if_neg e, decide_eq_false e]; rfl
  have Hq : Hid _ := hq
  have Hqv : Hid _ := hqv
  clear hv h hq hqv
  go_enter Tryd.func63, Tryd.ntmps63
  go_wp2_with (first | (go_at_call 64; refine (Tp.check_any _ _ hT q Hq.out).mono ?_; rintro e w4 ⟨rfl, k1⟩; have HK : Hid _ := k1; clear k1))
  all_goals
    go_ret
    refine ⟨?_, HK.out⟩
    rw [← Hqv.out]
    rfl
set_option maxRecDepth 100000 in
set_option maxHeartbeats 1000000 in
theorem rule_6 (w : World) (rb hb : Nat) (a : Option Addr) (n c : Nat) (G : Int) (T : ByteArray) (A Q Z : Int) (m : List UInt8) (hr : w.cell? ⟨rb, 0, none⟩ = some (.pointer (some ⟨hb, 0, none⟩))) (h : HAt w hb (.slice a n c) G T A Q Z m) (v : Bool) (hv : k6 A = v) :
    Calls Tryd.prog 65 #[.pointer (some ⟨rb, 0, none⟩)] w fun e w' => e = .returned (.bool v) ∧ Keep (fun _ => False) w w' := by
  obtain ⟨g0, g1, g2, g3, g4, g5⟩ := h.cells
  have HV : Hid (k6 A = v) := hv
  clear hv h
  rcases (by omega : A < 0 ∨ (0 ≤ A ∧ A ≤ 255) ∨ 255 < A) with h | ⟨h, h'⟩ | h
  all_goals
    go_enter Tryd.func65, Tryd.ntmps65
    go_wp2
    go_ret
    refine ⟨?_, Keep.refl _ _⟩
    have e := HV.out
    unfold k6 at e
    first | (subst e; simp; done) | (subst e; simp; omega)
set_option maxRecDepth 100000 in
set_option maxHeartbeats 1000000 in
theorem rule_7 (w : World) (rb hb : Nat) (a : Option Addr) (n c : Nat) (G : Int) (T : ByteArray) (A Q Z : Int) (m : List UInt8) (hr : w.cell? ⟨rb, 0, none⟩ = some (.pointer (some ⟨hb, 0, none⟩))) (h : HAt w hb (.slice a n c) G T A Q Z m) (v : Bool) (hv : k7 Q = v) :
    Calls Tryd.prog 66 #[.pointer (some ⟨rb, 0, none⟩)] w fun e w' => e = .returned (.bool v) ∧ Keep (fun _ => False) w w' := by
  obtain ⟨g0, g1, g2, g3, g4, g5⟩ := h.cells
  have HV : Hid (k7 Q = v) := hv
  clear hv h
  rcases (by omega : Q < 1 ∨ (1 ≤ Q ∧ Q ≤ 1073741824) ∨ 1073741824 < Q) with h | ⟨h, h'⟩ | h
  all_goals
    go_enter Tryd.func66, Tryd.ntmps66
    go_wp2
    go_ret
    refine ⟨?_, Keep.refl _ _⟩
    have e := HV.out
    unfold k7 at e
    first | (subst e; simp; done) | (subst e; simp; omega)
set_option maxRecDepth 100000 in
set_option maxHeartbeats 1000000 in
theorem rule_8 (w : World) (rb hb : Nat) (a : Option Addr) (n c : Nat) (G : Int) (T : ByteArray) (A Q Z : Int) (m : List UInt8) (hr : w.cell? ⟨rb, 0, none⟩ = some (.pointer (some ⟨hb, 0, none⟩))) (h : HAt w hb (.slice a n c) G T A Q Z m) (v : Bool) (hv : k8 Z = v) :
    Calls Tryd.prog 67 #[.pointer (some ⟨rb, 0, none⟩)] w fun e w' => e = .returned (.bool v) ∧ Keep (fun _ => False) w w' := by
  obtain ⟨g0, g1, g2, g3, g4, g5⟩ := h.cells
  have HV : Hid (k8 Z = v) := hv
  clear hv h
  rcases (by omega : Z < 1 ∨ (1 ≤ Z ∧ Z ≤ 512) ∨ 512 < Z) with h | ⟨h, h'⟩ | h
  all_goals
    go_enter Tryd.func67, Tryd.ntmps67
    go_wp2
    go_ret
    refine ⟨?_, Keep.refl _ _⟩
    have e := HV.out
    unfold k8 at e
    first | (subst e; simp; done) | (subst e; simp; omega)
/-- The rules, as they are laid. -/
def rc (rb : Nat) : List Value :=
  [.func (.func 58) #[] #[.pointer (some ⟨rb, 0, none⟩)], .int .i64 6, .func (.func 59) #[] #[.pointer (some ⟨rb, 0, none⟩)], .int .i64 4,
   .func (.func 61) #[] #[.pointer (some ⟨rb, 0, none⟩)], .int .i64 12, .func (.func 62) #[] #[.pointer (some ⟨rb, 0, none⟩)], .int .i64 12,
   .func (.func 63) #[] #[.pointer (some ⟨rb, 0, none⟩)], .int .i64 9, .func (.func 65) #[] #[.pointer (some ⟨rb, 0, none⟩)], .int .i64 5,
   .func (.func 66) #[] #[.pointer (some ⟨rb, 0, none⟩)], .int .i64 5, .func (.func 67) #[] #[.pointer (some ⟨rb, 0, none⟩)], .int .i64 5]
abbrev rl (f : Nat) (rb : Nat) (e : Int) : Value := .agg #[.func (.func f) #[] #[.pointer (some ⟨rb, 0, none⟩)], .int .i64 e]
def rps (rb : Nat) : Array (Nat × Value) := #[(0, rl 58 rb 6), (1, rl 59 rb 4), (2, rl 61 rb 12), (3, rl 62 rb 12), (4, rl 63 rb 9), (5, rl 65 rb 5), (6, rl 66 rb 5), (7, rl 67 rb 5)]
theorem rules_lay (W : World) (rb : Nat) : (Instr.buildSlice 70 8 (rps rb)).run Tryd.prog W = .ok (.slice (some ⟨W.heap.size, 0, none⟩) 8 8) (W.alloc (.cells (rc rb).toArray 74)) := by kernel_rfl
theorem at_bs {P : Program} {ops : Array Oper} {Q : Exit → Act → World → Prop} {d : Option Tmp} {ty : TypeId} {p : String} {n : Nat} {x : Array (Nat × Operand)} {af} {g} {rest : List Oper} {a : Act} {w : World} (T : TypeId) (h : wpList P ops Q ({ dst := d, op := .buildSlice T n x, type := ty, pos := p, after := af, guard := g } :: rest) a w) : wpList P ops Q ({ dst := d, op := .buildSlice T n x, type := ty, pos := p, after := af, guard := g } :: rest) a w := h
theorem wl_bs {ops : Array Oper} {rest : List Oper} {o : Oper} {a : Act} {w : World} {Q : Exit → Act → World → Prop} {T : TypeId} {n : Nat} {parts : Array (Nat × Operand)} (hgd : o.guard = none) (ho : o.op = .buildSlice T n parts) (ps : Array (Nat × Value)) (hp : (parts.toList.map fun (i, x) => (i, a.eval x)) = ps.toList) {v : Value} {w' : World} (hr : (Instr.buildSlice T n ps).run Tryd.prog w = .ok v w')
    (h : wpList Tryd.prog ops Q rest (a.put o.dst v) w') : wpList Tryd.prog ops Q (o :: rest) a w := by
  have e : (parts.map fun (i, x) => (i, a.eval x)) = ps := Array.toList_inj.1 (by rw [Array.toList_map]; exact hp)
  exact Sha.wl_buildS hgd ho (by rw [e]; exact hr) h
set_option maxRecDepth 100000 in
theorem rules_any (w : World) (hb : Nat) : Calls Tryd.prog 36 #[.pointer (some ⟨hb, 0, none⟩)] w fun e w' => e = .returned (.slice (some ⟨w.heap.size + 1, 0, none⟩) 8 8) ∧ w' = (w.alloc (.cells #[.pointer (some ⟨hb, 0, none⟩)] 72)).alloc (.cells (rc w.heap.size).toArray 74) := by
  go_enter Tryd.func36, Tryd.ntmps36
  go_wp2_with ((with_reducible refine at_bs 70 ?_); refine wl_bs rfl rfl (rps w.heap.size) (by kernel_rfl) (rules_lay _ w.heap.size) ?_; simp only [World.size_alloc]; simp only [Act.put, List.setIfInBounds_toArray, List.set_cons_zero, List.set_cons_succ])
  go_ret
  exact ⟨rfl, rfl⟩
end Hd
end Go.Proofs.YthllhjdaknmlbaaDoor
