/-
  'petrellaw08.HeaderOrders': the walk.
-/
import Derived.Test.YthdjbpimjbkajaaDoorGHb
set_option linter.unusedVariables false
set_option linter.unusedSimpArgs false
namespace Go.Proofs.YthdjbpimjbkajaaDoor
open Go.RowKit
namespace Hd
open Oct Ids Gn OctW
open Mem (M blk)

theorem at_call {P : Program} {f : Nat} {w : World} {Q : Ending → World → Prop} (args : Array Value) (h : Calls P f args w Q) : Calls P f args w Q := h
set_option maxRecDepth 100000 in
set_option maxHeartbeats 4000000 in
theorem orders_b (x y z : Int) (a b c : List UInt8) (ha : a.length = 32) (hb : b.length = 32) (hc : c.length = 32) (w : World) (hF : Sha.TabF w) (hK : Sha.TabK w) (p p2 q r ex ea : Bool)
    (hp : ah x a y b = p) (hp2 : ah y b x a = p2) (hq : ah y b z c = q) (hr : ah x a z c = r) (hex : (x == y) = ex) (hea : (a == b) = ea) (tot : (p || p2) = !(ex && ea)) (anti : (p && p2) = false) (tr : (p && q && !r) = false) :
    Calls Tryd.prog 3 #[.int .i64 x, .int .i64 y, .int .i64 z, idv a, idv b, idv c] w fun e w' => e = .returned (.bool true) ∧ Keep (fun _ => False) w w' := by
  have HF : Hid (Sha.TabF w) := hF
  have HK : Hid (Sha.TabK w) := hK
  have La : Hid (a.length = 32) := ha
  have Lb : Hid (b.length = 32) := hb
  have Lc : Hid (c.length = 32) := hc
  have HP : Hid (∀ w, Calls Tryd.prog 9 #[.int .i64 x, idv a, .int .i64 y, idv b] w fun e w' => e = .returned (.bool p) ∧ Keep (fun _ => False) w w') := fun w => ahead_any w x y a b ha hb p hp
  have HX : Hid (∀ w, Calls Tryd.prog 10 #[.int .i64 x, idv a, .int .i64 y, idv b] w fun e w' => e = .returned (.bool p) ∧ Keep (fun _ => False) w w') := fun w => xahead_any w x y a b ha hb p hp
  have H2 : Hid (∀ w, Calls Tryd.prog 9 #[.int .i64 y, idv b, .int .i64 x, idv a] w fun e w' => e = .returned (.bool p2) ∧ Keep (fun _ => False) w w') := fun w => ahead_any w y x b a hb ha p2 hp2
  have HQ : Hid (∀ w, Calls Tryd.prog 9 #[.int .i64 y, idv b, .int .i64 z, idv c] w fun e w' => e = .returned (.bool q) ∧ Keep (fun _ => False) w w') := fun w => ahead_any w y z b c hb hc q hq
  have HR : Hid (∀ w, Calls Tryd.prog 9 #[.int .i64 x, idv a, .int .i64 z, idv c] w fun e w' => e = .returned (.bool r) ∧ Keep (fun _ => False) w w') := fun w => ahead_any w x z a c ha hc r hr
  have hcmp : ∀ w, Sem.run Tryd.prog (binOp .eql 23 (idv a) (idv b)) w = .ok (.bool ea) w := fun w => by rw [eql_id w a b ha hb, hea]
  have HM : Hid (M (fun _ => False) w _ [blk w.heap.size (.cells (a.map bv).toArray 23), blk (w.heap.size + 1) (.cells (b.map bv).toArray 23), blk (w.heap.size + 1 + 1) (.cells (c.map bv).toArray 23)]) := (((M.start _ w).alloc (.cells (a.map bv).toArray 23) rfl).alloc (.cells (b.map bv).toArray 23) (by simp)).alloc (.cells (c.map bv).toArray 23) (by simp)
  have Tot : Hid _ := tot
  have Anti : Hid _ := anti
  have Tr : Hid _ := tr
  clear ha hb hc hF hK hp hp2 hq hr hea tot anti tr
  cases p <;> cases p2 <;> cases q <;> cases r <;> cases ex <;> cases ea <;> first | (exfalso; have := Tot.out; simp at this; done) | (exfalso; have := Anti.out; simp at this; done) | (exfalso; have := Tr.out; simp at this; done) | skip
  all_goals
    go_enter Tryd.func3, Tryd.ntmps3
    go_wp2_with (first | ((with_reducible refine at_load 23 ?_); first | (refine wl_loadG (by rfl) rfl rfl La.out (HM.out.range 0 rfl) ?_; simp only [Act.put, List.setIfInBounds_toArray, List.set_cons_zero, List.set_cons_succ]) | (refine wl_loadG (by rfl) rfl rfl Lb.out (HM.out.range 1 rfl) ?_; simp only [Act.put, List.setIfInBounds_toArray, List.set_cons_zero, List.set_cons_succ]) | (refine wl_loadG (by rfl) rfl rfl Lc.out (HM.out.range 2 rfl) ?_; simp only [Act.put, List.setIfInBounds_toArray, List.set_cons_zero, List.set_cons_succ])) | ((with_reducible refine at_call #[.int .i64 x, idv a, .int .i64 y, idv b] ?_); go_at_call 9; refine (HP.out _).mono ?_; rintro e w1 ⟨rfl, k1⟩; have HM : Hid _ := HM.out.calm k1; clear k1) | ((with_reducible refine at_call #[.int .i64 y, idv b, .int .i64 z, idv c] ?_); go_at_call 9; refine (HQ.out _).mono ?_; rintro e w1 ⟨rfl, k1⟩; have HM : Hid _ := HM.out.calm k1; clear k1) | ((with_reducible refine at_call #[.int .i64 x, idv a, .int .i64 z, idv c] ?_); go_at_call 9; refine (HR.out _).mono ?_; rintro e w1 ⟨rfl, k1⟩; have HM : Hid _ := HM.out.calm k1; clear k1) | ((with_reducible refine at_call #[.int .i64 y, idv b, .int .i64 x, idv a] ?_); go_at_call 9; refine (H2.out _).mono ?_; rintro e w1 ⟨rfl, k1⟩; have HM : Hid _ := HM.out.calm k1; clear k1) | ((with_reducible refine at_call #[.int .i64 y, idv b, .int .i64 x, idv a] ?_); go_at_call 9; refine (H2.out _).mono ?_; rintro e w1 ⟨rfl, k1⟩; have HM : Hid _ := HM.out.calm k1; clear k1) | (go_at_call 10; refine (HX.out _).mono ?_; rintro e w1 ⟨rfl, k1⟩; have HM : Hid _ := HM.out.calm k1; clear k1) | (go_at_call 11; refine (awake_any _ (HF.out.keep HM.out.keep (fun e => e)) (HK.out.keep HM.out.keep (fun e => e))).mono ?_; rintro e w1 ⟨rfl, k1⟩; have HM : Hid _ := HM.out.calm k1; clear k1))
    all_goals
      go_ret
      exact ⟨rfl, HM.out.keep⟩
end Hd
end Go.Proofs.YthdjbpimjbkajaaDoor
