/-
  petrelref07.Check.
-/
import Derived.Test.YtfoplimdbapdfaaDoorOx3
import Derived.Test.YtfoplimdbapdfaaDoorOx4
import Derived.Test.YtfoplimdbapdfaaDoorGRf
import Derived.Lib.Strings
set_option linter.unusedVariables false
set_option linter.unusedSimpArgs false
namespace Go.Proofs.YtfoplimdbapdfaaDoor
open Go.RowKit
namespace Ox
open Oct Ids

/-- Is the next operation a load of that type? (with_reducible: to keep an arm from being tried elsewhere) -/
theorem at_load {P : Program} {ops : Array Oper} {Q : Exit → Act → World → Prop} {d : Option Tmp} {ty : TypeId} {p : String} {x : Operand} {af} {g} {rest : List Oper} {a : Act} {w : World} (T : TypeId) (h : wpList P ops Q ({ dst := d, op := .load T x, type := ty, pos := p, after := af, guard := g } :: rest) a w) : wpList P ops Q ({ dst := d, op := .load T x, type := ty, pos := p, after := af, guard := g } :: rest) a w := h
theorem emp_iff (B : ByteArray) : B.toList = [] ↔ B.size = 0 := by
  constructor
  · intro h
    exact Classical.byContradiction fun e => list_ne e h
  · intro h
    rw [empty_of h, Lib.toList_data]
    rfl
theorem xis_v (w : World) (a : Option Addr) (n c : Nat) (l : List (List UInt8)) (h : At w a n l) (hm : n ≤ 100000) (v : Bool) (hv : isL l = v) :
    Calls Tryd.prog 60 #[.slice a n c] w fun e w' => e = .returned (.bool v) ∧ Keep (fun _ => False) w w' := by
  subst hv
  exact xis_any w a n c l h hm
set_option maxRecDepth 100000 in
theorem rcheck_none (w : World) (K N : Int) (Y V : ByteArray) (r : List UInt8) (a : Option Addr) (n c : Nat) (hr : r.length = 32) (hK : K < 1 ∨ 7 < K) :
    Calls Tryd.prog 18 #[.agg (oc K N Y V r (.slice a n c)).toArray] w fun e w' => e = .returned (.int .i64 10) ∧ Keep (fun _ => False) w w' := by
  have E0 : Hid _ := OAt.new (K := K) (N := N) (Y := Y) (V := V) (rv := .slice a n c) w hr
  generalize hX : (oc K N Y V r (.slice a n c)).toArray = X at E0 ⊢
  obtain ⟨g0, g1, g2, g3, g36⟩ := E0.out.cells
  have HK : Hid _ := hK
  clear hX hK
  go_enter Tryd.func18, Tryd.ntmps18
  go_wp2_with (first | (go_at_call 43; refine (has_none _ _ HK.out).mono ?_; rintro e w1 ⟨rfl, rfl⟩))
  go_ret
  exact ⟨rfl, (Keep.refl _ _).alloc _⟩
end Ox
end Go.Proofs.YtfoplimdbapdfaaDoor
