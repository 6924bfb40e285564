/-
  dag: the ids of one header: All, Heads.
-/
import Derived.Test.YthllhjdaknmlbaaDoorDz4
import Derived.Test.YthllhjdaknmlbaaDoorGIf
import Derived.Maps.RangeWalk
set_option linter.unusedVariables false
set_option linter.unusedSimpArgs false
namespace Go.Proofs.YthllhjdaknmlbaaDoor
open Go.RowKit
set_option linter.unusedSectionVars false
namespace Dz
open Oct Ids Mp Gn Hd Ru
open Mem (M It blk ids rows)
set_option maxRecDepth 100000 in
theorem len64 (w : World) : Calls Tryd.prog 56 #[.int .u64 1] w fun e w' => e = .returned (.int .i64 1) ∧ w' = w := by
  have e : Hid (wrap64 (wrap64 (Lib.len8 1)) = 1) := (by decide +kernel : _ = _)
  go_enter Tryd.func56, Tryd.ntmps56
  go_wp2
  go_ret
  exact ⟨congrArg (fun x => Ending.returned (Value.int .i64 x)) e.out, rfl⟩
set_option maxRecDepth 100000 in
theorem len1 (w : World) : Calls Tryd.prog 33 #[.int .u64 1] w fun e w' => e = .returned (.int .i64 1) ∧ w' = w := by
  go_enter Tryd.func33, Tryd.ntmps33
  go_wp2_with (first | (go_at_call 56; refine (len64 _).mono ?_; rintro e w1 ⟨rfl, rfl⟩))
  go_ret
  exact ⟨rfl, rfl⟩
set_option maxRecDepth 100000 in
theorem ins1 (w : World) (v fv : Value) : Calls Tryd.prog 47 #[v, .int .i64 0, .int .i64 1, fv] w fun e w' => e = .returned (.tuple #[]) ∧ Keep (fun _ => False) w w' := by
  go_enter Tryd.func47, Tryd.ntmps47
  go_wp2
  go_loopw [8] (fun s8 wr => s8 = .int .i64 1 ∧ Keep (fun _ => False) w wr) (fun _ _ => 0)
  case atStart => exact ⟨by go_num, Keep.refl _ _⟩
  case round =>
    obtain ⟨rfl, hk⟩ := hrel
    go_wp2
    go_end0
    exact ⟨rfl, hk⟩
set_option maxRecDepth 100000 in
theorem pdq1 (w : World) (v fv : Value) (lim : Int) : Calls Tryd.prog 32 #[v, .int .i64 0, .int .i64 1, .int .i64 lim, fv] w fun e w' => e = .returned (.tuple #[]) ∧ Keep (fun _ => False) w w' := by
  go_enter Tryd.func32, Tryd.ntmps32
  go_wp2
  go_loopw [1, 2, 3] (fun s1 s2 s3 wr => s1 = .int .i64 0 ∧ s2 = .int .i64 1 ∧ s3 = .int .i64 lim ∧ Keep (fun _ => False) w wr) (fun _ _ _ _ => 0)
  case atStart => exact ⟨rfl, rfl, rfl, Keep.refl _ _⟩
  case round =>
    obtain ⟨rfl, rfl, rfl, hk⟩ := hrel
    have HK : Hid _ := hk
    clear hk
    go_wp2_with (first | (go_at_call 47; refine (ins1 _ _ _).mono ?_; rintro e w2 ⟨rfl, k1⟩; have K1 : Hid _ := k1; clear k1))
    refine bodyPost_ret (results_none rfl _ _ _) rfl ?_
    exact ⟨rfl, HK.out.trans K1.out⟩
set_option maxRecDepth 100000 in
theorem sort1 (w : World) (a : Option Addr) (c : Nat) (fv : Value) : Calls Tryd.prog 21 #[.slice a 1 c, fv] w fun e w' => e = .returned (.tuple #[]) ∧ Keep (fun _ => False) w w' := by
  go_enter Tryd.func21, Tryd.ntmps21
  go_wp2_with (first | (go_at_call 33; refine (len1 _).mono ?_; rintro e w1 ⟨rfl, h1⟩; rw [h1]; clear h1) | (go_at_call 32; refine (pdq1 _ _ _ _).mono ?_; rintro e w2 ⟨rfl, k1⟩; have K1 : Hid _ := k1; clear k1))
  go_end0
  exact ⟨rfl, K1.out⟩
theorem at_alloc {P : Program} {ops : Array Oper} {Q : Exit → Act → World → Prop} {d : Option Tmp} {ty : TypeId} {p : String} {af} {g} {rest : List Oper} {a : Act} {w : World} (T : TypeId) (h : wpList P ops Q ({ dst := d, op := .alloc T, type := ty, pos := p, after := af, guard := g } :: rest) a w) : wpList P ops Q ({ dst := d, op := .alloc T, type := ty, pos := p, after := af, guard := g } :: rest) a w := h
def lnv : Value → Nat
  | .slice _ n _ => n
  | _ => 0
theorem own_idat {w : World} {a : Option Addr} {n c : Nat} {els : List Wd} (h : Ids.Own w (.slice a n c) els) : At w a n els := by
  obtain ⟨a', c', e, h1, _⟩ := h.at
  cases e
  exact h1
section
variable {w0 : World} (w : World) (db b0 b1 b2 b3 : Nat) (u : Wd) (hu : u.length = 32) (hv : Value) (T : List (ByteArray × Value)) (C : List (Wd × Value)) (bx : Nat) (ob : Obj)
include hu
set_option maxRecDepth 100000 in
set_option maxHeartbeats 2000000 in
theorem dall (h : M (fun _ => False) w0 w (di db b0 b1 b2 b3 [(u, hv)] [] T C ++ [blk bx ob])) :
    Calls Tryd.prog 10 #[.pointer (some ⟨db, 0, none⟩)] w fun e w' => ∃ a c, e = .returned (.slice a 1 c) ∧ M (fun _ => False) w0 w' (di db b0 b1 b2 b3 [(u, hv)] [] T C ++ [blk bx ob] ++ [ids (.slice a 1 c) [u]]) := by
  have HM : Hid _ := h
  have HU : Hid (u.length = 32) := hu
  have HUs : Hid ((u.map bv).toArray.size = 32) := (by show _ = _; rw [List.size_toArray, List.length_map]; exact hu)
  have c0 := h.cell 0 rfl 0 (v := .map (some b0)) rfl
  clear h hu
  go_enter Tryd.func10, Tryd.ntmps10
  go_wp2_with (first | (go_at_call 16; refine (dnone _ db b0 c0).mono ?_; rintro e w1 ⟨rfl, h1⟩; rw [h1]; clear h1) | (at_range; refine Mp.wl_range (ok := okI) (enc := idv) Tryd.underlying31 rfl rfl rfl (HM.out.get 1 rfl) ?_; intro w1 i1 k1 z1; have HM : Hid _ := M.toItr HM.out 1 rfl i1 k1 z1; clear i1 k1 z1; simp only [Act.put, List.setIfInBounds_toArray, List.set_cons_zero, List.set_cons_succ]))
  go_loopw [3] (fun s3 wr => ∃ (todo : List (Wd × Value)) (cur : Option (Wd × Value)) (l : List Wd) (v : Value), s3 = v ∧ M (fun _ => False) w0 wr ([blk db (dcs b0 b1 b2 b3), itr okI idv w.heap.size b0 [(u, hv)] todo cur, mp okI idv b1 [], mp okS Value.string b2 T, mp okI idv b3 C, blk bx ob] ++ [ids v l]) ∧ ((todo = [(u, hv)] ∧ l = []) ∨ (todo = [] ∧ l = [u]))) (fun s3 _ => 1 - lnv s3)
  case atStart => exact ⟨_, _, [], _, rfl, HM.out.nilI, .inl ⟨rfl, rfl⟩⟩
  case round =>
    clear HM c0
    obtain ⟨todo, cur, l, v, e1, hM, hc⟩ := hrel
    replace e1 := e1.symm
    subst e1
    have HM : Hid _ := hM
    clear hM
    rcases hc with ⟨rfl, rfl⟩ | ⟨rfl, rfl⟩
    · obtain ⟨va, vc, e1, _⟩ := (show Ids.Own wr v [] from HM.out.get 6 rfl).at
      subst e1
      go_wp2_with (first | (at_next; refine Mp.wl_next rfl rfl rfl (HM.out.get 1 rfl) (fun e => by cases e) ?_; intro l1 p l2 w3 e3 i3 k3 z3; obtain ⟨rfl, rfl, rfl⟩ : l1 = [] ∧ p = (u, hv) ∧ l2 = [] := (by cases l1 with | nil => (cases e3; exact ⟨rfl, rfl, rfl⟩) | cons x l1 => (simp at e3)); have HM : Hid _ := M.stepItr HM.out 1 rfl i3 k3; clear e3 i3 k3 z3; simp only [Act.put, List.setIfInBounds_toArray, List.set_cons_zero, List.set_cons_succ]) | (refine Mp.wl_entry rfl rfl rfl (HM.out.get 1 rfl) ?_; simp only [Act.put, List.setIfInBounds_toArray, List.set_cons_zero, List.set_cons_succ]) | ((with_reducible refine at_alloc 24 ?_); refine St.wl_alloc tyI rfl rfl (by (try simp only [World.size_alloc]); rfl) ?_; simp only [Act.put, List.setIfInBounds_toArray, List.set_cons_zero, List.set_cons_succ]) | ((with_reducible refine at_store 24 ?_); refine St.wl_storeN (W := w3) tyI rfl rfl rfl rfl rfl (by (try simp only [World.size_alloc])) (show _ = Value.agg (u.map bv).toArray from rfl) HUs.out rfl (one_bv _) ?_; have HM : Hid _ := HM.out.alloc (.cells (u.map bv).toArray 24) rfl) | ((with_reducible refine at_load 24 ?_); refine Ids.wl_load rfl rfl rfl HU.out (HM.out.range 7 rfl) ?_; simp only [Act.put, List.setIfInBounds_toArray, List.set_cons_zero, List.set_cons_succ]) | (refine Ids.wl_build rfl rfl HU.out rfl ?_; have HM : Hid _ := HM.out.alloc (.cells (u.map bv).toArray 24) rfl; simp only [Act.put, List.setIfInBounds_toArray, List.set_cons_zero, List.set_cons_succ]) | (refine Ids.wl_app1 rfl rfl rfl (HM.out.get 6 rfl) rfl HU.out (HM.out.get 8 rfl) (by simp) ?_; intro v4 w4 h4 k4 g4; obtain ⟨a4, c4, e4, _⟩ := h4.at; subst e4; have HM : Hid _ := HM.out.appI 6 rfl h4 k4 g4; clear h4 k4 g4; simp only [Act.put, List.setIfInBounds_toArray, List.set_cons_zero, List.set_cons_succ]))
      go_roundw
      case rel => exact ⟨_, _, [u], _, rfl, HM.out.take 7, .inr ⟨rfl, rfl⟩⟩
      case measure => simp [lnv]
    · obtain ⟨va, vc, e1, _⟩ := (show Ids.Own wr v [u] from HM.out.get 6 rfl).at
      subst e1
      go_wp2_with (first | (at_next; refine Mp.wl_next rfl rfl rfl (HM.out.get 1 rfl) (fun _ => ?_) (fun l1 p l2 w' e => by cases l1 <;> cases e); have HM : Hid _ := M.ofItr HM.out 1 rfl; simp only [Act.put, List.setIfInBounds_toArray, List.set_cons_zero, List.set_cons_succ]) | (go_at_call 21; refine (sort1 _ _ _ _).mono ?_; rintro e w5 ⟨rfl, k5⟩; have HM : Hid _ := HM.out.calm k5; clear k5))
      go_ret
      exact ⟨_, _, rfl, HM.out⟩
end
end Dz
end Go.Proofs.YthllhjdaknmlbaaDoor
