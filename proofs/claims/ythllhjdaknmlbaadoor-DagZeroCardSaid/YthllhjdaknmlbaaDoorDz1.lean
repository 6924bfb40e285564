/-
  dag: keys; a dag that nobody made.
-/
import Derived.Test.YthllhjdaknmlbaaDoorRu1
import Derived.Test.YthllhjdaknmlbaaDoorMpK
import Derived.Test.YthllhjdaknmlbaaDoorMpT
import Derived.Laws.Cover3
set_option linter.unusedVariables false
set_option linter.unusedSimpArgs false
namespace Go.Proofs.YthllhjdaknmlbaaDoor
open Go.RowKit
set_option linter.unusedSectionVars false
namespace Dz
open Oct Ids Mp Gn Hd
open Mem (M It blk ids rows)
abbrev Wd := List UInt8
abbrev okI : Wd → Prop := fun k => k.length = 32
instance decBA : DecidableEq ByteArray := fun a b => if h : a.data.toList = b.data.toList then isTrue (by cases a; cases b; exact congrArg ByteArray.mk (Array.toList_inj.1 h)) else isFalse fun e => h (by rw [e])
/-- Strings as keys. -/
abbrev okS : ByteArray → Prop := fun _ => True
theorem ba_beq (x y : ByteArray) : (x == y) = decide (x = y) := by
  rw [Bool.eq_iff_iff, decide_eq_true_eq]
  cases x with
  | mk a => cases y with
    | mk b =>
      show (a == b) = true ↔ _
      rw [beq_iff_eq]
      exact ⟨fun h => by rw [h], fun h => by cases h; rfl⟩
theorem strKey : Key Tryd.prog 9 okS Value.string := by
  refine ⟨fun k _ b w => ?_, ⟨_, Tryd.underlying9, .inl fun x y _ _ => ?_⟩, fun k _ => ?_⟩
  · rw [show (10000 : Nat) = 9999 + 1 from rfl, Instr.checkKey]
    simp [run_underlying Tryd.underlying9]
  · simp [Instr.sameNow, ba_beq]
  · rw [show (10000 : Nat) = 9999 + 1 from rfl]
    simp only [Instr.sameBits]
    rw [ba_beq]
    exact decide_eq_true rfl

theorem map_nil {T K E : TypeId} (hT : Tryd.prog.underlying T = some (.map K E)) (m : Option Nat) (w : World) : Sem.run Tryd.prog (binOp .eql T (.map m) (.map none)) w = .ok (.bool m.isNone) w := by
  have h := run_equal_map_nil (P := Tryd.prog) w T K E m hT
  have e : binOp .eql T (.map m) (.map none) = (do pure (.bool (← Op.equal T (.map m) (.map none)))) := rfl
  rw [e, Sem.run_bind, h]
  rfl
theorem at_call {P : Program} {f : Nat} {w : World} {Q : Ending → World → Prop} (args : Array Value) (h : Calls P f args w Q) : Calls P f args w Q := h
theorem at_load {P : Program} {ops : Array Oper} {Q : Exit → Act → World → Prop} {d : Option Tmp} {ty : TypeId} {p : String} {x : Operand} {af} {g} {rest : List Oper} {a : Act} {w : World} (T : TypeId) (h : wpList P ops Q ({ dst := d, op := .load T x, type := ty, pos := p, after := af, guard := g } :: rest) a w) : wpList P ops Q ({ dst := d, op := .load T x, type := ty, pos := p, after := af, guard := g } :: rest) a w := h
theorem at_store {P : Program} {ops : Array Oper} {Q : Exit → Act → World → Prop} {d : Option Tmp} {ty : TypeId} {p : String} {x y : Operand} {af} {g} {rest : List Oper} {a : Act} {w : World} (T : TypeId) (h : wpList P ops Q ({ dst := d, op := .store T x y, type := ty, pos := p, after := af, guard := g } :: rest) a w) : wpList P ops Q ({ dst := d, op := .store T x y, type := ty, pos := p, after := af, guard := g } :: rest) a w := h
section
variable {ops : Array Oper} {rest : List Oper} {o : Oper} {a : Act} {w : World} {K : Act → World → Prop} {Q : Exit → Act → World → Prop}
theorem run_storeI {w : World} {p : Addr} {ad : Option Addr} {n c : Nat} {old : Value} (hc : w.cell? p = some old) (hf : w.frozen? p = false) : (Instr.storeAt 22 (.pointer (some p)) (.slice ad n c)).run Tryd.prog w = .ok () (w.setCell p (.slice ad n c)) := by
  go_simp
theorem wp_storeI {x y : Operand} (ho : o.op = .store 22 x y) (hd : o.dst = none) {p : Addr} (hx : a.eval x = .pointer (some p)) {ad : Option Addr} {n c : Nat} (hy : a.eval y = .slice ad n c) {old : Value} (hc : w.cell? p = some old) (hf : w.frozen? p = false)
    (h : K a (w.setCell p (.slice ad n c))) : o.wp Tryd.prog a w K Q := by
  unfold Oper.wp execOp
  simp only [ho, hx, hy, Sem.run_bind, run_storeI hc hf, Result.andThen_ok, Sem.run_pure]
  rw [Oper.upon_skip, hd]
  exact h
end
abbrev zd : Array Value := #[.map none, .map none, .map none, .map none]
theorem tyD : St.Ty 36 4 zd := ⟨⟨_, Tryd.underlying36, rfl⟩, by kernel_rfl, rfl⟩
/-- A dag that nobody made. -/
def Zp (w : World) (p : Value) : Prop := p = .pointer none ∨ ∃ b, p = .pointer (some ⟨b, 0, none⟩) ∧ w.heap[b]? = some (.cells #[.map none, .map none, .map none, .map none] 36 (0, 0))
theorem Zp.calm {w w' : World} {p : Value} (h : Zp w p) (k : Keep (fun _ => False) w w') : Zp w' p := h.imp id fun ⟨b, e, hb⟩ => ⟨b, e, k.get hb (fun h => h)⟩
set_option maxRecDepth 100000 in
theorem znone (w : World) (p : Value) (h : Zp w p) : Calls Tryd.prog 16 #[p] w fun e w' => e = .returned (.bool true) ∧ w' = w := by
  rcases h with rfl | ⟨b, rfl, hb⟩
  · go_enter Tryd.func16, Tryd.ntmps16
    go_wp2
    go_ret
    exact ⟨rfl, rfl⟩
  · have c0 : w.cell? ⟨b, 0, none⟩ = some (.map none) := by rw [cell_of hb]; rfl
    have qT := map_nil Tryd.underlying31
    clear hb
    go_enter Tryd.func16, Tryd.ntmps16
    go_wp2
    go_ret
    exact ⟨rfl, rfl⟩
section
variable (w : World) (p : Value) (h : Zp w p)
include h
set_option maxRecDepth 100000 in
theorem zadd (X : Array Value) : Calls Tryd.prog 6 #[p, .agg X] w fun e w' => e = .returned (.tuple #[idv Z32, .int .i64 8]) ∧ Keep (fun _ => False) w w' := by
  have HZ : Hid (Zp w p) := h
  have HM : Hid (M (fun _ => False) w _ [blk w.heap.size (.cells X 26), blk (w.heap.size + 1) (.cells z32 24)]) := ((M.start _ w).alloc (.cells X 26) rfl).alloc (.cells z32 24) (by simp)
  clear h
  go_enter Tryd.func6, Tryd.ntmps6
  go_wp2_with (first | (go_at_call 16; refine (znone _ p (HZ.out.calm HM.out.keep)).mono ?_; rintro e w1 ⟨rfl, rfl⟩) | (refine St.wl_alloc tyI rfl rfl (by (try simp only [World.size_alloc]); rfl) ?_; simp only [Act.put, List.setIfInBounds_toArray, List.set_cons_zero, List.set_cons_succ]) | (refine St.wl_buildV (T := 24) (parts := #[]) rfl rfl (cs := z32) (by kernel_rfl) ?_; simp only [Act.put, List.setIfInBounds_toArray, List.set_cons_zero, List.set_cons_succ]) | (refine St.wl_store tyI rfl rfl rfl rfl rfl (cs := z32) rfl (one_bv (List.replicate 32 0)) (HM.out.get 1 rfl) rfl ?_; have HM : Hid _ := HM.out.setr 1 rfl z32))
  refine bodyPost_ret (St.res2 tyI rfl _ _ _ z32 rfl rfl (HM.out.get 1 rfl) _ rfl) rfl ?_
  exact ⟨rfl, HM.out.keep⟩
set_option maxRecDepth 100000 in
theorem zget (u : Wd) : Calls Tryd.prog 7 #[p, idv u] w fun e w' => e = .returned (.tuple #[.agg hz0, .int .i64 8]) ∧ Keep (fun _ => False) w w' := by
  have HZ : Hid (Zp w p) := h
  have HM : Hid (M (fun _ => False) w _ [blk w.heap.size (.cells (u.map bv).toArray 24), blk (w.heap.size + 1) (.cells hz0 26)]) := ((M.start _ w).alloc (.cells (u.map bv).toArray 24) rfl).alloc (.cells hz0 26) (by simp)
  clear h
  go_enter Tryd.func7, Tryd.ntmps7
  go_wp2_with (first | (go_at_call 16; refine (znone _ p (HZ.out.calm HM.out.keep)).mono ?_; rintro e w1 ⟨rfl, rfl⟩) | (refine St.wl_alloc tyH rfl rfl (by (try simp only [World.size_alloc]); rfl) ?_; simp only [Act.put, List.setIfInBounds_toArray, List.set_cons_zero, List.set_cons_succ]) | (refine St.wl_buildV (T := 26) (parts := #[]) rfl rfl (cs := hz0) (by kernel_rfl) ?_; simp only [Act.put, List.setIfInBounds_toArray, List.set_cons_zero, List.set_cons_succ]) | (refine St.wl_store tyH rfl rfl rfl rfl rfl (cs := hz0) rfl (hd_one _ _ _ _ _ _ _ _ _) (HM.out.get 1 rfl) rfl ?_; have HM : Hid _ := HM.out.setr 1 rfl hz0))
  refine bodyPost_ret (St.res2 tyH rfl _ _ _ hz0 rfl rfl (HM.out.get 1 rfl) _ rfl) rfl ?_
  exact ⟨rfl, HM.out.keep⟩
set_option maxRecDepth 100000 in
theorem zhas (u : Wd) : Calls Tryd.prog 8 #[p, idv u] w fun e w' => e = .returned (.bool false) ∧ Keep (fun _ => False) w w' := by
  have HZ : Hid (Zp (w.alloc (.cells (u.map bv).toArray 24)) p) := h.calm ((Keep.refl _ _).alloc _)
  clear h
  go_enter Tryd.func8, Tryd.ntmps8
  go_wp2_with (go_at_call 16; refine (znone _ p HZ.out).mono ?_; rintro e w1 ⟨rfl, rfl⟩)
  go_ret
  exact ⟨rfl, (Keep.refl _ _).alloc _⟩
set_option maxRecDepth 100000 in
theorem zlen : Calls Tryd.prog 9 #[p] w fun e w' => e = .returned (.int .i64 0) ∧ w' = w := by
  have HZ : Hid (Zp w p) := h
  clear h
  go_enter Tryd.func9, Tryd.ntmps9
  go_wp2_with (go_at_call 16; refine (znone _ p HZ.out).mono ?_; rintro e w1 ⟨rfl, h1⟩; replace h1 := h1.symm; subst h1)
  go_ret
  exact ⟨rfl, rfl⟩
set_option maxRecDepth 100000 in
theorem zall : Calls Tryd.prog 10 #[p] w fun e w' => e = .returned (.slice none 0 0) ∧ w' = w := by
  have HZ : Hid (Zp w p) := h
  clear h
  go_enter Tryd.func10, Tryd.ntmps10
  go_wp2_with (go_at_call 16; refine (znone _ p HZ.out).mono ?_; rintro e w1 ⟨rfl, h1⟩; replace h1 := h1.symm; subst h1)
  go_ret
  exact ⟨rfl, rfl⟩
set_option maxRecDepth 100000 in
theorem ztopic (t : ByteArray) : Calls Tryd.prog 12 #[p, .string t] w fun e w' => e = .returned (.slice none 0 0) ∧ w' = w := by
  have HZ : Hid (Zp w p) := h
  clear h
  go_enter Tryd.func12, Tryd.ntmps12
  go_wp2_with (go_at_call 16; refine (znone _ p HZ.out).mono ?_; rintro e w1 ⟨rfl, h1⟩; replace h1 := h1.symm; subst h1)
  go_ret
  exact ⟨rfl, rfl⟩
set_option maxRecDepth 100000 in
theorem zcommitted (u : Wd) : Calls Tryd.prog 13 #[p, idv u] w fun e w' => e = .returned (.slice none 0 0) ∧ Keep (fun _ => False) w w' := by
  have HZ : Hid (Zp (w.alloc (.cells (u.map bv).toArray 24)) p) := h.calm ((Keep.refl _ _).alloc _)
  clear h
  go_enter Tryd.func13, Tryd.ntmps13
  go_wp2_with (go_at_call 16; refine (znone _ p HZ.out).mono ?_; rintro e w1 ⟨rfl, rfl⟩)
  go_ret
  exact ⟨rfl, (Keep.refl _ _).alloc _⟩
set_option maxRecDepth 100000 in
theorem zunknown (X : Array Value) : Calls Tryd.prog 14 #[p, .agg X] w fun e w' => e = .returned (.slice none 0 0) ∧ Keep (fun _ => False) w w' := by
  have HZ : Hid (Zp (w.alloc (.cells X 26)) p) := h.calm ((Keep.refl _ _).alloc _)
  clear h
  go_enter Tryd.func14, Tryd.ntmps14
  go_wp2_with (go_at_call 16; refine (znone _ p HZ.out).mono ?_; rintro e w1 ⟨rfl, rfl⟩)
  go_ret
  exact ⟨rfl, (Keep.refl _ _).alloc _⟩
end
end Dz
end Go.Proofs.YthllhjdaknmlbaaDoor
