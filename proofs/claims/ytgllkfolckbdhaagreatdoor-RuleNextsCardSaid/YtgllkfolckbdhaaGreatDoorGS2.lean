/-
  petrelref02: rotr, word, start, consts. petrelref02.block: the walk. petrelref02.Sum: the walk. (Does not build yet: begun.)
-/
import Derived.Test.YtgllkfolckbdhaaGreatDoorGSh
import Derived.ArgAppend
import Derived.Laws.IdiomStrings
import Derived.Test.YtgllkfolckbdhaaGreatDoorGOp
set_option linter.unusedVariables false
set_option linter.unusedSimpArgs false

namespace Go.Proofs.YtgllkfolckbdhaaGreatDoor
open Go.RowKit
namespace Sha
open Oct Mem
set_option maxRecDepth 100000 in
theorem rotr_2 (w : World) (x : UInt32) : Calls Tryz.prog 122 #[uv x, .int .i64 2] w fun e w' => e = .returned (uv (rotr x 2)) ∧ w = w' := by
  have h1 : ∀ w, Sem.run Tryz.prog (binOp .shl 119 (uv x) (.int .u64 30)) w = .ok (uv (x <<< (30 : UInt32))) w := fun w => u_shl _ x .u64 30 (by omega) w
  have h2 : ∀ w, Sem.run Tryz.prog (binOp .shr 119 (uv x) (.int .u64 2)) w = .ok (uv (x >>> (2 : UInt32))) w := fun w => u_shr _ x .u64 2 (by omega) w
  have h3 : ∀ w, Sem.run Tryz.prog (binOp .or 119 (uv (x >>> (2 : UInt32))) (uv (x <<< (30 : UInt32)))) w = .ok (uv (rotr x 2)) w := fun w => by rw [u_or, UInt32.or_comm]; rfl
  go_enter Tryz.func122, Tryz.ntmps122
  go_wp2
  go_ret
  exact ⟨rfl, rfl⟩
set_option maxRecDepth 100000 in
theorem rotr_6 (w : World) (x : UInt32) : Calls Tryz.prog 122 #[uv x, .int .i64 6] w fun e w' => e = .returned (uv (rotr x 6)) ∧ w = w' := by
  have h1 : ∀ w, Sem.run Tryz.prog (binOp .shl 119 (uv x) (.int .u64 26)) w = .ok (uv (x <<< (26 : UInt32))) w := fun w => u_shl _ x .u64 26 (by omega) w
  have h2 : ∀ w, Sem.run Tryz.prog (binOp .shr 119 (uv x) (.int .u64 6)) w = .ok (uv (x >>> (6 : UInt32))) w := fun w => u_shr _ x .u64 6 (by omega) w
  have h3 : ∀ w, Sem.run Tryz.prog (binOp .or 119 (uv (x >>> (6 : UInt32))) (uv (x <<< (26 : UInt32)))) w = .ok (uv (rotr x 6)) w := fun w => by rw [u_or, UInt32.or_comm]; rfl
  go_enter Tryz.func122, Tryz.ntmps122
  go_wp2
  go_ret
  exact ⟨rfl, rfl⟩
set_option maxRecDepth 100000 in
theorem rotr_7 (w : World) (x : UInt32) : Calls Tryz.prog 122 #[uv x, .int .i64 7] w fun e w' => e = .returned (uv (rotr x 7)) ∧ w = w' := by
  have h1 : ∀ w, Sem.run Tryz.prog (binOp .shl 119 (uv x) (.int .u64 25)) w = .ok (uv (x <<< (25 : UInt32))) w := fun w => u_shl _ x .u64 25 (by omega) w
  have h2 : ∀ w, Sem.run Tryz.prog (binOp .shr 119 (uv x) (.int .u64 7)) w = .ok (uv (x >>> (7 : UInt32))) w := fun w => u_shr _ x .u64 7 (by omega) w
  have h3 : ∀ w, Sem.run Tryz.prog (binOp .or 119 (uv (x >>> (7 : UInt32))) (uv (x <<< (25 : UInt32)))) w = .ok (uv (rotr x 7)) w := fun w => by rw [u_or, UInt32.or_comm]; rfl
  go_enter Tryz.func122, Tryz.ntmps122
  go_wp2
  go_ret
  exact ⟨rfl, rfl⟩
set_option maxRecDepth 100000 in
theorem rotr_11 (w : World) (x : UInt32) : Calls Tryz.prog 122 #[uv x, .int .i64 11] w fun e w' => e = .returned (uv (rotr x 11)) ∧ w = w' := by
  have h1 : ∀ w, Sem.run Tryz.prog (binOp .shl 119 (uv x) (.int .u64 21)) w = .ok (uv (x <<< (21 : UInt32))) w := fun w => u_shl _ x .u64 21 (by omega) w
  have h2 : ∀ w, Sem.run Tryz.prog (binOp .shr 119 (uv x) (.int .u64 11)) w = .ok (uv (x >>> (11 : UInt32))) w := fun w => u_shr _ x .u64 11 (by omega) w
  have h3 : ∀ w, Sem.run Tryz.prog (binOp .or 119 (uv (x >>> (11 : UInt32))) (uv (x <<< (21 : UInt32)))) w = .ok (uv (rotr x 11)) w := fun w => by rw [u_or, UInt32.or_comm]; rfl
  go_enter Tryz.func122, Tryz.ntmps122
  go_wp2
  go_ret
  exact ⟨rfl, rfl⟩
set_option maxRecDepth 100000 in
theorem rotr_13 (w : World) (x : UInt32) : Calls Tryz.prog 122 #[uv x, .int .i64 13] w fun e w' => e = .returned (uv (rotr x 13)) ∧ w = w' := by
  have h1 : ∀ w, Sem.run Tryz.prog (binOp .shl 119 (uv x) (.int .u64 19)) w = .ok (uv (x <<< (19 : UInt32))) w := fun w => u_shl _ x .u64 19 (by omega) w
  have h2 : ∀ w, Sem.run Tryz.prog (binOp .shr 119 (uv x) (.int .u64 13)) w = .ok (uv (x >>> (13 : UInt32))) w := fun w => u_shr _ x .u64 13 (by omega) w
  have h3 : ∀ w, Sem.run Tryz.prog (binOp .or 119 (uv (x >>> (13 : UInt32))) (uv (x <<< (19 : UInt32)))) w = .ok (uv (rotr x 13)) w := fun w => by rw [u_or, UInt32.or_comm]; rfl
  go_enter Tryz.func122, Tryz.ntmps122
  go_wp2
  go_ret
  exact ⟨rfl, rfl⟩
set_option maxRecDepth 100000 in
theorem rotr_17 (w : World) (x : UInt32) : Calls Tryz.prog 122 #[uv x, .int .i64 17] w fun e w' => e = .returned (uv (rotr x 17)) ∧ w = w' := by
  have h1 : ∀ w, Sem.run Tryz.prog (binOp .shl 119 (uv x) (.int .u64 15)) w = .ok (uv (x <<< (15 : UInt32))) w := fun w => u_shl _ x .u64 15 (by omega) w
  have h2 : ∀ w, Sem.run Tryz.prog (binOp .shr 119 (uv x) (.int .u64 17)) w = .ok (uv (x >>> (17 : UInt32))) w := fun w => u_shr _ x .u64 17 (by omega) w
  have h3 : ∀ w, Sem.run Tryz.prog (binOp .or 119 (uv (x >>> (17 : UInt32))) (uv (x <<< (15 : UInt32)))) w = .ok (uv (rotr x 17)) w := fun w => by rw [u_or, UInt32.or_comm]; rfl
  go_enter Tryz.func122, Tryz.ntmps122
  go_wp2
  go_ret
  exact ⟨rfl, rfl⟩
set_option maxRecDepth 100000 in
theorem rotr_18 (w : World) (x : UInt32) : Calls Tryz.prog 122 #[uv x, .int .i64 18] w fun e w' => e = .returned (uv (rotr x 18)) ∧ w = w' := by
  have h1 : ∀ w, Sem.run Tryz.prog (binOp .shl 119 (uv x) (.int .u64 14)) w = .ok (uv (x <<< (14 : UInt32))) w := fun w => u_shl _ x .u64 14 (by omega) w
  have h2 : ∀ w, Sem.run Tryz.prog (binOp .shr 119 (uv x) (.int .u64 18)) w = .ok (uv (x >>> (18 : UInt32))) w := fun w => u_shr _ x .u64 18 (by omega) w
  have h3 : ∀ w, Sem.run Tryz.prog (binOp .or 119 (uv (x >>> (18 : UInt32))) (uv (x <<< (14 : UInt32)))) w = .ok (uv (rotr x 18)) w := fun w => by rw [u_or, UInt32.or_comm]; rfl
  go_enter Tryz.func122, Tryz.ntmps122
  go_wp2
  go_ret
  exact ⟨rfl, rfl⟩
set_option maxRecDepth 100000 in
theorem rotr_19 (w : World) (x : UInt32) : Calls Tryz.prog 122 #[uv x, .int .i64 19] w fun e w' => e = .returned (uv (rotr x 19)) ∧ w = w' := by
  have h1 : ∀ w, Sem.run Tryz.prog (binOp .shl 119 (uv x) (.int .u64 13)) w = .ok (uv (x <<< (13 : UInt32))) w := fun w => u_shl _ x .u64 13 (by omega) w
  have h2 : ∀ w, Sem.run Tryz.prog (binOp .shr 119 (uv x) (.int .u64 19)) w = .ok (uv (x >>> (19 : UInt32))) w := fun w => u_shr _ x .u64 19 (by omega) w
  have h3 : ∀ w, Sem.run Tryz.prog (binOp .or 119 (uv (x >>> (19 : UInt32))) (uv (x <<< (13 : UInt32)))) w = .ok (uv (rotr x 19)) w := fun w => by rw [u_or, UInt32.or_comm]; rfl
  go_enter Tryz.func122, Tryz.ntmps122
  go_wp2
  go_ret
  exact ⟨rfl, rfl⟩
set_option maxRecDepth 100000 in
theorem rotr_22 (w : World) (x : UInt32) : Calls Tryz.prog 122 #[uv x, .int .i64 22] w fun e w' => e = .returned (uv (rotr x 22)) ∧ w = w' := by
  have h1 : ∀ w, Sem.run Tryz.prog (binOp .shl 119 (uv x) (.int .u64 10)) w = .ok (uv (x <<< (10 : UInt32))) w := fun w => u_shl _ x .u64 10 (by omega) w
  have h2 : ∀ w, Sem.run Tryz.prog (binOp .shr 119 (uv x) (.int .u64 22)) w = .ok (uv (x >>> (22 : UInt32))) w := fun w => u_shr _ x .u64 22 (by omega) w
  have h3 : ∀ w, Sem.run Tryz.prog (binOp .or 119 (uv (x >>> (22 : UInt32))) (uv (x <<< (10 : UInt32)))) w = .ok (uv (rotr x 22)) w := fun w => by rw [u_or, UInt32.or_comm]; rfl
  go_enter Tryz.func122, Tryz.ntmps122
  go_wp2
  go_ret
  exact ⟨rfl, rfl⟩
set_option maxRecDepth 100000 in
theorem rotr_25 (w : World) (x : UInt32) : Calls Tryz.prog 122 #[uv x, .int .i64 25] w fun e w' => e = .returned (uv (rotr x 25)) ∧ w = w' := by
  have h1 : ∀ w, Sem.run Tryz.prog (binOp .shl 119 (uv x) (.int .u64 7)) w = .ok (uv (x <<< (7 : UInt32))) w := fun w => u_shl _ x .u64 7 (by omega) w
  have h2 : ∀ w, Sem.run Tryz.prog (binOp .shr 119 (uv x) (.int .u64 25)) w = .ok (uv (x >>> (25 : UInt32))) w := fun w => u_shr _ x .u64 25 (by omega) w
  have h3 : ∀ w, Sem.run Tryz.prog (binOp .or 119 (uv (x >>> (25 : UInt32))) (uv (x <<< (7 : UInt32)))) w = .ok (uv (rotr x 25)) w := fun w => by rw [u_or, UInt32.or_comm]; rfl
  go_enter Tryz.func122, Tryz.ntmps122
  go_wp2
  go_ret
  exact ⟨rfl, rfl⟩
theorem tyU32s_info : True := trivial
set_option maxRecDepth 100000 in
theorem start_any (w : World) : Calls Tryz.prog 92 #[] w fun e w' => e = .returned (.agg (us H0)) ∧ Keep (fun _ => False) w w' := by
  have HM : Hid (M (fun _ => False) w w []) := M.start _ w
  go_enter Tryz.func92, Tryz.ntmps92
  go_wp2_with (first | (refine St.wl_alloc ty8 rfl rfl rfl ?_; have HM : Hid _ := HM.out.alloc (.cells (us (List.replicate 8 0)) 120) rfl; simp only [Act.put, List.setIfInBounds_toArray, List.set_cons_zero, List.set_cons_succ]) | (refine St.wl_buildV rfl rfl (cs := us H0) (by kernel_rfl) ?_; simp only [Act.put, List.setIfInBounds_toArray, List.set_cons_zero, List.set_cons_succ]) | (refine St.wl_store ty8 rfl rfl rfl rfl rfl (cs := us H0) rfl (us_one _) (HM.out.get 0 rfl) (by simp) ?_; have HM : Hid _ := HM.out.setr 0 rfl (us H0)))
  refine bodyPost_ret (St.res1 ty8 rfl _ _ _ (us H0) rfl rfl (HM.out.get 0 rfl)) rfl ?_
  exact ⟨rfl, HM.out.keep⟩
theorem wl_buildS {ops : Array Oper} {rest : List Oper} {o : Oper} {a : Act} {w : World} {Q : Exit → Act → World → Prop} {T : TypeId} {n : Nat} {parts : Array (Nat × Operand)} (hgd : o.guard = none) (ho : o.op = .buildSlice T n parts) {v : Value} {w' : World} (hr : (Instr.buildSlice T n (parts.map fun (i, x) => (i, a.eval x))).run Tryz.prog w = .ok v w')
    (h : wpList Tryz.prog ops Q rest (a.put o.dst v) w') : wpList Tryz.prog ops Q (o :: rest) a w :=
  wpList_plain hgd fun K hK => by
    unfold Oper.wp execOp
    simp only [ho, Sem.run_bind, hr, Result.andThen_ok]
    exact hK _ _ h
set_option maxRecDepth 100000 in
theorem consts_any (w : World) : Calls Tryz.prog 93 #[] w fun e w' => e = .returned (.slice (some ⟨w.heap.size, 0, none⟩) 64 64) ∧ w' = w.alloc (.cells (us K) 119) := by
  go_enter Tryz.func93, Tryz.ntmps93
  go_wp2_with (refine wl_buildS rfl rfl (v := .slice (some ⟨w.heap.size, 0, none⟩) 64 64) (w' := w.alloc (.cells (us K) 119)) (by kernel_rfl) ?_; simp only [Act.put, List.setIfInBounds_toArray, List.set_cons_zero, List.set_cons_succ])
  go_ret
  exact ⟨rfl, rfl⟩
set_option maxRecDepth 100000 in
set_option maxHeartbeats 2000000 in
theorem word_any (w : World) (g off n c p0 : Nat) (b0 b1 b2 b3 : UInt8) (h0 : w.cell? ⟨g, off + p0, none⟩ = some (bv b0)) (h1 : w.cell? ⟨g, off + (p0 + 1), none⟩ = some (bv b1)) (h2 : w.cell? ⟨g, off + (p0 + 2), none⟩ = some (bv b2)) (h3 : w.cell? ⟨g, off + (p0 + 3), none⟩ = some (bv b3)) (hp : p0 + 3 < n) (hn : n ≤ 64) :
    Calls Tryz.prog 121 #[.slice (some ⟨g, off, none⟩) n c, .int .i64 p0] w fun e w' => e = .returned (uv (wd b0 b1 b2 b3)) ∧ Keep (fun _ => False) w w' := by
  obtain ⟨p1, e1⟩ : ∃ p, p0 + 1 = p := ⟨_, rfl⟩
  obtain ⟨p2, e2⟩ : ∃ p, p0 + 2 = p := ⟨_, rfl⟩
  obtain ⟨p3, e3⟩ : ∃ p, p0 + 3 = p := ⟨_, rfl⟩
  rw [e1] at h1
  rw [e2] at h2
  rw [e3] at h3
  have w1 : IntKind.i64.wrap ((p0 : Int) + 1) = (p1 : Int) := by rw [IntWalk.i64_in _ (by omega)]; omega
  have w2 : IntKind.i64.wrap ((p0 : Int) + 2) = (p2 : Int) := by rw [IntWalk.i64_in _ (by omega)]; omega
  have w3 : IntKind.i64.wrap ((p0 : Int) + 3) = (p3 : Int) := by rw [IntWalk.i64_in _ (by omega)]; omega
  have l0 : p0 < n := by omega
  have l1 : p1 < n := by omega
  have l2 : p2 < n := by omega
  have l3 : p3 < n := by omega
  clear e1 e2 e3
  have f_add : ∀ (x y : UInt32) (w : World), Sem.run Tryz.prog (binOp .add 119 (uv x) (uv y)) w = .ok (uv (x + y)) w := fun x y w => u_add _ x y w
  have f_xor : ∀ (x y : UInt32) (w : World), Sem.run Tryz.prog (binOp .xor 119 (uv x) (uv y)) w = .ok (uv (x ^^^ y)) w := fun x y w => u_xor _ x y w
  have f_and : ∀ (x y : UInt32) (w : World), Sem.run Tryz.prog (binOp .and 119 (uv x) (uv y)) w = .ok (uv (x &&& y)) w := fun x y w => u_and _ x y w
  have f_or : ∀ (x y : UInt32) (w : World), Sem.run Tryz.prog (binOp .or 119 (uv x) (uv y)) w = .ok (uv (x ||| y)) w := fun x y w => u_or _ x y w
  have f_not : ∀ (x : UInt32) (w : World), Sem.run Tryz.prog (Op.unary .xor (uv x)) w = .ok (uv (0xffffffff ^^^ x)) w := fun x w => u_not x w
  have f_s24 : ∀ (x : UInt32) (w : World), Sem.run Tryz.prog (binOp .shl 119 (uv x) (.int .u64 24)) w = .ok (uv (x <<< (24 : UInt32))) w := fun x w => u_shl _ x .u64 24 (by omega) w
  have f_s16 : ∀ (x : UInt32) (w : World), Sem.run Tryz.prog (binOp .shl 119 (uv x) (.int .u64 16)) w = .ok (uv (x <<< (16 : UInt32))) w := fun x w => u_shl _ x .u64 16 (by omega) w
  have f_s8 : ∀ (x : UInt32) (w : World), Sem.run Tryz.prog (binOp .shl 119 (uv x) (.int .u64 8)) w = .ok (uv (x <<< (8 : UInt32))) w := fun x w => u_shl _ x .u64 8 (by omega) w
  have f_r3 : ∀ (x : UInt32) (w : World), Sem.run Tryz.prog (binOp .shr 119 (uv x) (.int .u64 3)) w = .ok (uv (x >>> (3 : UInt32))) w := fun x w => u_shr _ x .u64 3 (by omega) w
  have f_r10 : ∀ (x : UInt32) (w : World), Sem.run Tryz.prog (binOp .shr 119 (uv x) (.int .u64 10)) w = .ok (uv (x >>> (10 : UInt32))) w := fun x w => u_shr _ x .u64 10 (by omega) w
  have f_cv : ∀ (c : UInt8) (w : World), Sem.run Tryz.prog (convert 5 119 (bv c)) w = .ok (uv c.toUInt32) w := fun c w => u_conv c w
  go_enter Tryz.func121, Tryz.ntmps121
  go_wp2
  refine Txt.wp_region_text (fun _ => True) [0, 0, 0, 1, 0, 0, 0, 0, 0, 0, 1, 0, 0, 0, 0, 0, 0, 0, 1, 0, 0, 0, 0, 0, 0, 0, 1, 0, 0, 0] (by kernel_rfl) (by kernel_rfl) trivial ?_
  repeat (first
    | (refine Txt.tl_pure (v := ?_) (by rfl) ?_ ?_; rotate_left; (focus (intro _; go_simp; try with_reducible rfl)); simp only [Act.put, List.setIfInBounds_toArray, List.set_cons_zero, List.set_cons_succ])
    | (refine Txt.tl_skip (by rfl) trivial ?_; simp only [Act.put, List.setIfInBounds_toArray, List.set_cons_zero, List.set_cons_succ])
    | (refine Txt.tl_load (v := ?_) (by rfl) (by rfl) (by rfl) (by kernel_rfl) ?_ ?_; rotate_left; (focus (first | assumption | (go_simp; done) | (go_simp; with_reducible rfl))); simp only [Act.put, List.setIfInBounds_toArray, List.set_cons_zero, List.set_cons_succ])
    | (refine Txt.tl_alloc (by rfl) ?_; go_simp; refine ⟨by (first | exact Txt.Le.alloc_drew _ _ | exact Txt.Le.alloc _ _), ?_⟩))
  refine Txt.tl_nil ?_
  go_wp2
  go_ret
  exact ⟨rfl, (Keep.refl _ _).drew⟩
end Sha
end Go.Proofs.YtgllkfolckbdhaaGreatDoor


namespace Go.Proofs.YtgllkfolckbdhaaGreatDoor
open Go.RowKit
namespace Sha
open Oct Mem
/-- The words, moved down as far as j. -/
def shf (r : R8) (j : Nat) : List UInt32 := (toL r).take (j + 1) ++ ((toL r).drop j).take (7 - j)
theorem shf_set (r : R8) (j : Nat) (h : 0 < j) (h7 : j ≤ 7) : (us (shf r j)).setIfInBounds j (uv ((toL r).getD (j - 1) 0)) = us (shf r (j - 1)) := by
  have : j = 1 ∨ j = 2 ∨ j = 3 ∨ j = 4 ∨ j = 5 ∨ j = 6 ∨ j = 7 := by omega
  rcases this with rfl | rfl | rfl | rfl | rfl | rfl | rfl <;> rfl
theorem shf_at (r : R8) (j : Nat) (h : 0 < j) (h7 : j ≤ 7) : (us (shf r j))[j - 1]? = some (uv ((toL r).getD (j - 1) 0)) := by
  have : j = 1 ∨ j = 2 ∨ j = 3 ∨ j = 4 ∨ j = 5 ∨ j = 6 ∨ j = 7 := by omega
  rcases this with rfl | rfl | rfl | rfl | rfl | rfl | rfl <;> rfl
theorem shf_old (r : R8) (j : Nat) (h : 0 < j) (h7 : j ≤ 7) : (us (shf r j))[j]? = some (uv ((toL r).getD j 0)) := by
  have : j = 1 ∨ j = 2 ∨ j = 3 ∨ j = 4 ∨ j = 5 ∨ j = 6 ∨ j = 7 := by omega
  rcases this with rfl | rfl | rfl | rfl | rfl | rfl | rfl <;> rfl
theorem addR_comm (x y : R8) : addR x y = addR y x := by
  simp [addR, UInt32.add_comm]
theorem K_at (k : Nat) (h : k < 64) : (us K)[k]? = some (uv (K.getD k 0)) := by
  rw [List.getElem?_toArray, List.getElem?_map, List.getD_eq_getElem?_getD, List.getElem?_eq_getElem (by exact h)]; rfl
set_option maxHeartbeats 4000000 in
set_option maxRecDepth 100000 in
theorem block_any (w : World) (g off n c kb kc : Nat) (s : R8) (b : List UInt8) (hr : w.rangeAt g off (b.map bv)) (hg : g < w.heap.size) (hb : b.length = 64) (hn : n = 64) (hK : w.heap[kb]? = some (.cells (us K) 119 (0, 0))) :
    Calls Tryz.prog 94 #[.agg (us (toL s)), .slice (some ⟨g, off, none⟩) n c, .slice (some ⟨kb, 0, none⟩) 64 kc] w fun e w' => e = .returned (.agg (us (toL (turn s b)))) ∧ Keep (fun _ => False) w w' := by
  have HR : Hid (w.rangeAt g off (b.map bv)) := hr
  have HG : Hid (g < w.heap.size) := hg
  have HB : Hid (b.length = 64) := hb
  have HKb : Hid (w.heap[kb]? = some (.cells (us K) 119 (0, 0))) := hK
  have W0 : Hid (wc b 0 = List.replicate 64 0) := wc_zero b
  have HM : Hid (M (fun _ => False) w _ [blk w.heap.size (.cells (us (toL s)) 120)]) := (M.start _ w).alloc (.cells (us (toL s)) 120) rfl
  have hn1 : n ≤ 64 := by omega
  have hn2 : 64 ≤ n := by omega
  clear hr hg hb hn hK
  have f_add : ∀ (x y : UInt32) (w : World), Sem.run Tryz.prog (binOp .add 119 (uv x) (uv y)) w = .ok (uv (x + y)) w := fun x y w => u_add _ x y w
  have f_xor : ∀ (x y : UInt32) (w : World), Sem.run Tryz.prog (binOp .xor 119 (uv x) (uv y)) w = .ok (uv (x ^^^ y)) w := fun x y w => u_xor _ x y w
  have f_and : ∀ (x y : UInt32) (w : World), Sem.run Tryz.prog (binOp .and 119 (uv x) (uv y)) w = .ok (uv (x &&& y)) w := fun x y w => u_and _ x y w
  have f_or : ∀ (x y : UInt32) (w : World), Sem.run Tryz.prog (binOp .or 119 (uv x) (uv y)) w = .ok (uv (x ||| y)) w := fun x y w => u_or _ x y w
  have f_not : ∀ (x : UInt32) (w : World), Sem.run Tryz.prog (Op.unary .xor (uv x)) w = .ok (uv (0xffffffff ^^^ x)) w := fun x w => u_not x w
  have f_s24 : ∀ (x : UInt32) (w : World), Sem.run Tryz.prog (binOp .shl 119 (uv x) (.int .u64 24)) w = .ok (uv (x <<< (24 : UInt32))) w := fun x w => u_shl _ x .u64 24 (by omega) w
  have f_s16 : ∀ (x : UInt32) (w : World), Sem.run Tryz.prog (binOp .shl 119 (uv x) (.int .u64 16)) w = .ok (uv (x <<< (16 : UInt32))) w := fun x w => u_shl _ x .u64 16 (by omega) w
  have f_s8 : ∀ (x : UInt32) (w : World), Sem.run Tryz.prog (binOp .shl 119 (uv x) (.int .u64 8)) w = .ok (uv (x <<< (8 : UInt32))) w := fun x w => u_shl _ x .u64 8 (by omega) w
  have f_r3 : ∀ (x : UInt32) (w : World), Sem.run Tryz.prog (binOp .shr 119 (uv x) (.int .u64 3)) w = .ok (uv (x >>> (3 : UInt32))) w := fun x w => u_shr _ x .u64 3 (by omega) w
  have f_r10 : ∀ (x : UInt32) (w : World), Sem.run Tryz.prog (binOp .shr 119 (uv x) (.int .u64 10)) w = .ok (uv (x >>> (10 : UInt32))) w := fun x w => u_shr _ x .u64 10 (by omega) w
  have f_cv : ∀ (c : UInt8) (w : World), Sem.run Tryz.prog (convert 5 119 (bv c)) w = .ok (uv c.toUInt32) w := fun c w => u_conv c w
  go_enter Tryz.func94, Tryz.ntmps94
  go_wp2_with (first | (refine St.wl_alloc ty8 rfl rfl (b := w.heap.size + 1) (by simp only [World.size_alloc]) ?_; have HM : Hid _ := HM.out.alloc (.cells (us (List.replicate 8 0)) 120) (b := w.heap.size + 1) (by simp only [World.size_alloc]); simp only [Act.put, List.setIfInBounds_toArray, List.set_cons_zero, List.set_cons_succ]) | (refine St.wl_alloc ty64 rfl rfl (b := w.heap.size + 1 + 1) (by simp only [World.size_alloc]) ?_; have HM : Hid _ := HM.out.alloc (.cells (us (List.replicate 64 0)) 147) (b := w.heap.size + 1 + 1) (by simp only [World.size_alloc]); simp only [Act.put, List.setIfInBounds_toArray, List.set_cons_zero, List.set_cons_succ]))
  obtain ⟨hb, hhb⟩ : ∃ b, w.heap.size = b := ⟨_, rfl⟩
  rw [hhb] at HM ⊢
  have HH : Hid (w.heap.size = hb) := hhb
  clear hhb
  go_loopw [8] (fun i wr => ∃ k : Nat, k ≤ 64 ∧ i = .int .i64 k ∧ M (fun _ => False) w wr [blk hb (.cells (us (toL s)) 120), blk (hb + 1) (.cells (us (List.replicate 8 0)) 120), blk (hb + 1 + 1) (.cells (us (wc b k)) 147)]) (fun i _ => 64 - (intOf i).toNat)
  case atStart => exact ⟨0, by omega, rfl, by rw [W0.out]; exact HM.out⟩
  case round =>
    obtain ⟨k, hk, rfl, hM⟩ := hrel
    have HM : Hid (M (fun _ => False) w wr [blk hb (.cells (us (toL s)) 120), blk (hb + 1) (.cells (us (List.replicate 8 0)) 120), blk (hb + 1 + 1) (.cells (us (wc b k)) 147)]) := hM
    clear hM
    by_cases hlt : k < 64
    · have Hnx : Hid _ := wc_next b k hlt
      by_cases h16 : k < 16
      · have hr2 : wr.rangeAt g off (b.map bv) := HM.out.keep.range HG.out (fun h => h) HR.out
        have cell (i : Nat) (h : i < 64) : wr.cell? ⟨g, off + i, none⟩ = some (bv (b.getD i 0)) := hr2 i _ (by rw [List.getElem?_map, byte_at b i (by rw [HB.out]; exact h)]; rfl)
        obtain ⟨v, hv⟩ : ∃ v, sw b (sch b k) k = v := ⟨_, rfl⟩
        have hv2 : wd (b.getD (4 * k) 0) (b.getD (4 * k + 1) 0) (b.getD (4 * k + 2) 0) (b.getD (4 * k + 3) 0) = v := by rw [← hv]; unfold sw; rw [if_pos h16]
        obtain ⟨p0, e0⟩ : ∃ p, 4 * k = p := ⟨_, rfl⟩
        have w0 : IntKind.i64.wrap (4 * (k : Int)) = (p0 : Int) := by rw [IntWalk.i64_in _ (by omega)]; omega
        rw [e0] at hv2
        have HWd : Hid (Calls Tryz.prog 121 #[.slice (some ⟨g, off, none⟩) n c, .int .i64 p0] wr fun e w' => e = .returned (uv v) ∧ Keep (fun _ => False) wr w') := by
          rw [← hv2]
          exact word_any wr g off n c p0 _ _ _ _ (cell p0 (by omega)) (cell (p0 + 1) (by omega)) (cell (p0 + 2) (by omega)) (cell (p0 + 3) (by omega)) (by omega) hn1
        have HS : Hid _ := wc_set b k hlt
        rw [hv] at HS
        clear hr2 cell hv hv2 e0
        go_wp2_with (first | (go_at_call 121; refine HWd.out.mono ?_; rintro e w9 ⟨rfl, k9⟩; have HM : Hid _ := HM.out.calm k9; clear k9) | (refine Sha.wl_store (v := v) rfl rfl rfl rfl rfl (HM.out.cell 2 rfl k Hnx.out) (HM.out.free 2 rfl k) ?_; have HM : Hid _ := HM.out.setc 2 rfl k (uv v)))
        go_roundw
        case rel =>
          refine ⟨k + 1, by omega, rfl, ?_⟩
          rw [← HS.out]
          exact HM.out
        case measure => simp [intOf]; omega
      · have cell (i : Nat) (h : i < k) := HM.out.cell 2 rfl i (wc_at b k i h)
        have cell2 (i : Nat) (h : i < k) := fun v : Value => (HM.out.drew.setc 2 rfl k v).cell 2 rfl i (set_ne (wc_at b k i h) (by omega))
        have c15 := cell (k - 15) (by omega)
        have c2 := cell (k - 2) (by omega)
        have c16 := cell (k - 16) (by omega)
        have c7 := cell (k - 7) (by omega)
        have d16 := cell2 (k - 16) (by omega)
        have d7 := cell2 (k - 7) (by omega)
        have HS : Hid (sw b (sch b k) k = (sch b k).getD (k - 16) 0 + s0 ((sch b k).getD (k - 15) 0) + (sch b k).getD (k - 7) 0 + s1 ((sch b k).getD (k - 2) 0)) := by show _ = _; unfold sw; rw [if_neg h16]
        clear cell cell2
        generalize (sch b k).getD (k - 16) 0 = x16 at *
        generalize (sch b k).getD (k - 15) 0 = x15 at *
        generalize (sch b k).getD (k - 7) 0 = x7 at *
        generalize (sch b k).getD (k - 2) 0 = x2 at *
        obtain ⟨i15, e15⟩ : ∃ i, k - 15 = i := ⟨_, rfl⟩
        obtain ⟨i2, e2⟩ : ∃ i, k - 2 = i := ⟨_, rfl⟩
        obtain ⟨i16, e16⟩ : ∃ i, k - 16 = i := ⟨_, rfl⟩
        obtain ⟨i7, e7⟩ : ∃ i, k - 7 = i := ⟨_, rfl⟩
        rw [e15] at c15
        have w15 : IntKind.i64.wrap (i15 : Int) = (i15 : Int) := IntWalk.i64_in _ (by omega)
        have v15 : (k : Int) - 15 = (i15 : Int) := by omega
        rw [e2] at c2
        have w2 : IntKind.i64.wrap (i2 : Int) = (i2 : Int) := IntWalk.i64_in _ (by omega)
        have v2 : (k : Int) - 2 = (i2 : Int) := by omega
        rw [e16] at c16 d16
        have w16 : IntKind.i64.wrap (i16 : Int) = (i16 : Int) := IntWalk.i64_in _ (by omega)
        have v16 : (k : Int) - 16 = (i16 : Int) := by omega
        rw [e7] at c7 d7
        have w7 : IntKind.i64.wrap (i7 : Int) = (i7 : Int) := IntWalk.i64_in _ (by omega)
        have v7 : (k : Int) - 7 = (i7 : Int) := by omega
        have b15 : (i15 : Int) < 64 := by omega
        have b2 : (i2 : Int) < 64 := by omega
        have b16 : (i16 : Int) < 64 := by omega
        have b7 : (i7 : Int) < 64 := by omega
        have bk : (k : Int) < 64 := by omega
        have hcell := HM.out.cell 2 rfl k Hnx.out
        have hfz := HM.out.free 2 rfl k
        have HQ : Hid (wr.cell? ⟨hb + 1 + 1, i16, none⟩ = some (uv x16) ∧ wr.cell? ⟨hb + 1 + 1, i7, none⟩ = some (uv x7)) := ⟨c16, c7⟩
        have HQ2 : Hid (∀ v, (wr.drew.setCell ⟨hb + 1 + 1, k, none⟩ v).cell? ⟨hb + 1 + 1, i16, none⟩ = some (uv x16) ∧ (wr.drew.setCell ⟨hb + 1 + 1, k, none⟩ v).cell? ⟨hb + 1 + 1, i7, none⟩ = some (uv x7)) := fun v => ⟨d16 v, d7 v⟩
        clear e15 e2 e16 e7 d16 d7
        go_wp2
        refine Txt.wp_region_text (fun w' => w'.cell? ⟨hb + 1 + 1, i16, none⟩ = some (uv x16) ∧ w'.cell? ⟨hb + 1 + 1, i7, none⟩ = some (uv x7)) [0, 0, 0, 0, 2, 0, 4, 0, 4, 0, 0, 0, 0, 0, 0, 0, 0, 2, 0, 0, 4, 0, 4, 0, 0, 0, 0, 0, 0, 4] (by kernel_rfl) (by kernel_rfl) HQ.out ?_
        have HQ : Hid (wr.drew.cell? ⟨hb + 1 + 1, i16, none⟩ = some (uv x16) ∧ wr.drew.cell? ⟨hb + 1 + 1, i7, none⟩ = some (uv x7)) := HQ.out
        (repeat (first | (refine Txt.tl_pure (v := ?_) (by rfl) ?_ ?_; rotate_left; (focus (intro _; go_simp; try with_reducible rfl)); simp only [Act.put, List.setIfInBounds_toArray, List.set_cons_zero, List.set_cons_succ]) | (refine Txt.tl_loadS (v := uv x16) (by rfl) (by rfl) (by rfl) (by kernel_rfl) (fun w2 h => h.1) ?_; simp only [Act.put, List.setIfInBounds_toArray, List.set_cons_zero, List.set_cons_succ]) | (refine Txt.tl_loadS (v := uv x7) (by rfl) (by rfl) (by rfl) (by kernel_rfl) (fun w2 h => h.2) ?_; simp only [Act.put, List.setIfInBounds_toArray, List.set_cons_zero, List.set_cons_succ])))
        refine Txt.tl_call Tryz.func122 (by kernel_rfl) (by kernel_rfl) (by rfl) (by rfl) (by rfl) (rotr_7 _ x15) ?_
        rintro e w9 ⟨rfl, rfl⟩
        refine ⟨_, rfl, HQ.out, ?_⟩
        simp only [Act.put, List.setIfInBounds_toArray, List.set_cons_zero, List.set_cons_succ]
        (repeat (first | (refine Txt.tl_pure (v := ?_) (by rfl) ?_ ?_; rotate_left; (focus (intro _; go_simp; try with_reducible rfl)); simp only [Act.put, List.setIfInBounds_toArray, List.set_cons_zero, List.set_cons_succ]) | (refine Txt.tl_loadS (v := uv x16) (by rfl) (by rfl) (by rfl) (by kernel_rfl) (fun w2 h => h.1) ?_; simp only [Act.put, List.setIfInBounds_toArray, List.set_cons_zero, List.set_cons_succ]) | (refine Txt.tl_loadS (v := uv x7) (by rfl) (by rfl) (by rfl) (by kernel_rfl) (fun w2 h => h.2) ?_; simp only [Act.put, List.setIfInBounds_toArray, List.set_cons_zero, List.set_cons_succ])))
        refine Txt.tl_call Tryz.func122 (by kernel_rfl) (by kernel_rfl) (by rfl) (by rfl) (by rfl) (rotr_18 _ x15) ?_
        rintro e w9 ⟨rfl, rfl⟩
        refine ⟨_, rfl, HQ.out, ?_⟩
        simp only [Act.put, List.setIfInBounds_toArray, List.set_cons_zero, List.set_cons_succ]
        (repeat (first | (refine Txt.tl_pure (v := ?_) (by rfl) ?_ ?_; rotate_left; (focus (intro _; go_simp; try with_reducible rfl)); simp only [Act.put, List.setIfInBounds_toArray, List.set_cons_zero, List.set_cons_succ]) | (refine Txt.tl_loadS (v := uv x16) (by rfl) (by rfl) (by rfl) (by kernel_rfl) (fun w2 h => h.1) ?_; simp only [Act.put, List.setIfInBounds_toArray, List.set_cons_zero, List.set_cons_succ]) | (refine Txt.tl_loadS (v := uv x7) (by rfl) (by rfl) (by rfl) (by kernel_rfl) (fun w2 h => h.2) ?_; simp only [Act.put, List.setIfInBounds_toArray, List.set_cons_zero, List.set_cons_succ])))
        refine Txt.tl_call Tryz.func122 (by kernel_rfl) (by kernel_rfl) (by rfl) (by rfl) (by rfl) (rotr_17 _ x2) ?_
        rintro e w9 ⟨rfl, rfl⟩
        refine ⟨_, rfl, HQ.out, ?_⟩
        simp only [Act.put, List.setIfInBounds_toArray, List.set_cons_zero, List.set_cons_succ]
        (repeat (first | (refine Txt.tl_pure (v := ?_) (by rfl) ?_ ?_; rotate_left; (focus (intro _; go_simp; try with_reducible rfl)); simp only [Act.put, List.setIfInBounds_toArray, List.set_cons_zero, List.set_cons_succ]) | (refine Txt.tl_loadS (v := uv x16) (by rfl) (by rfl) (by rfl) (by kernel_rfl) (fun w2 h => h.1) ?_; simp only [Act.put, List.setIfInBounds_toArray, List.set_cons_zero, List.set_cons_succ]) | (refine Txt.tl_loadS (v := uv x7) (by rfl) (by rfl) (by rfl) (by kernel_rfl) (fun w2 h => h.2) ?_; simp only [Act.put, List.setIfInBounds_toArray, List.set_cons_zero, List.set_cons_succ])))
        refine Txt.tl_call Tryz.func122 (by kernel_rfl) (by kernel_rfl) (by rfl) (by rfl) (by rfl) (rotr_19 _ x2) ?_
        rintro e w9 ⟨rfl, rfl⟩
        refine ⟨_, rfl, HQ.out, ?_⟩
        simp only [Act.put, List.setIfInBounds_toArray, List.set_cons_zero, List.set_cons_succ]
        (repeat (first | (refine Txt.tl_pure (v := ?_) (by rfl) ?_ ?_; rotate_left; (focus (intro _; go_simp; try with_reducible rfl)); simp only [Act.put, List.setIfInBounds_toArray, List.set_cons_zero, List.set_cons_succ]) | (refine Txt.tl_loadS (v := uv x16) (by rfl) (by rfl) (by rfl) (by kernel_rfl) (fun w2 h => h.1) ?_; simp only [Act.put, List.setIfInBounds_toArray, List.set_cons_zero, List.set_cons_succ]) | (refine Txt.tl_loadS (v := uv x7) (by rfl) (by rfl) (by rfl) (by kernel_rfl) (fun w2 h => h.2) ?_; simp only [Act.put, List.setIfInBounds_toArray, List.set_cons_zero, List.set_cons_succ])))
        refine Txt.tl_loud (by rfl) ?_
        refine wp_store rfl rfl (by rfl) (by rfl) hcell hfz ?_
        refine ⟨HQ2.out _, ?_⟩
        refine Txt.tl_nil ?_
        go_wp2
        go_roundw
        case rel =>
          refine ⟨k + 1, by omega, rfl, ?_⟩
          rw [← wc_set b k hlt, HS.out]
          exact HM.out.drew.setc 2 rfl k _
        case measure => simp [intOf]; omega
    · obtain rfl : k = 64 := by omega
      have hf := wc_full b
      have HM2 := HM.out
      rw [hf] at HM2
      have HM : Hid _ := HM2
      clear HM2 hf
      have L64 : Hid ((sch b 64).length = 64) := sch_len b 64
      go_wp2_with (first | (refine St.wl_load ty8 (by rfl) rfl rfl (HM.out.range 0 rfl) rfl ?_; simp only [Act.put, List.setIfInBounds_toArray, List.set_cons_zero, List.set_cons_succ]) | (refine St.wl_alloc ty8 rfl rfl rfl ?_; simp only [Act.put, List.setIfInBounds_toArray, List.set_cons_zero, List.set_cons_succ]) | (refine St.wl_storeN ty8 rfl rfl rfl rfl rfl rfl rfl rfl (by simp) (us_one _) ?_; have HM : Hid (M (fun _ => False) w _ [blk hb (.cells (us (toL s)) 120), blk (hb + 1) (.cells (us (List.replicate 8 0)) 120), blk (hb + 1 + 1) (.cells (us (sch b 64)) 147), blk wr.heap.size (.cells (us (toL s)) 120)]) := HM.out.alloc (.cells (us (toL s)) 120) rfl))
      simp only [show ((64 : Nat) : Int) = 64 from rfl]
      obtain ⟨ob, hob⟩ : ∃ b, wr.heap.size = b := ⟨_, rfl⟩
      rw [hob] at HM ⊢
      clear hob
      go_loopw [12] (fun i wr => ∃ k : Nat, k ≤ 64 ∧ i = .int .i64 k ∧ M (fun _ => False) w wr [blk hb (.cells (us (toL s)) 120), blk (hb + 1) (.cells (us (List.replicate 8 0)) 120), blk (hb + 1 + 1) (.cells (us (sch b 64)) 147), blk ob (.cells (us (toL (rnds (sch b 64) s k))) 120)]) (fun i _ => 64 - (intOf i).toNat)
      case atStart => exact ⟨0, by omega, rfl, HM.out⟩
      case round =>
        obtain ⟨k, hk, rfl, hM⟩ := hrel
        have HM : Hid (M (fun _ => False) w wr [blk hb (.cells (us (toL s)) 120), blk (hb + 1) (.cells (us (List.replicate 8 0)) 120), blk (hb + 1 + 1) (.cells (us (sch b 64)) 147), blk ob (.cells (us (toL (rnds (sch b 64) s k))) 120)]) := hM
        clear hM
        by_cases hlt : k < 64
        · have HR : Hid (∀ r : R8, rnds (sch b 64) s k = r → rnds (sch b 64) s (k + 1) = rnd (K.getD k 0) ((sch b 64).getD k 0) r) := fun r h => by rw [← h]; rfl
          obtain ⟨r, hr⟩ : ∃ r, rnds (sch b 64) s k = r := ⟨_, rfl⟩
          have HR : Hid (rnds (sch b 64) s (k + 1) = rnd (K.getD k 0) ((sch b 64).getD k 0) r) := HR.out r hr
          rw [hr] at HM
          clear hr
          have hl := L64.out
          have cK : wr.cell? ⟨kb, k, none⟩ = some (uv (K.getD k 0)) := (HM.out.keep.cell (p := ⟨kb, k, none⟩) (lt_of_block HKb.out) (fun h => h)).trans (by rw [cell_of HKb.out]; exact K_at k hlt)
          have cW : wr.cell? ⟨hb + 1 + 1, k, none⟩ = some (uv ((sch b 64).getD k 0)) := HM.out.cell 2 rfl k (by rw [List.getElem?_toArray, List.getElem?_map, List.getD_eq_getElem?_getD, List.getElem?_eq_getElem (by omega)]; rfl)
          have g0 := HM.out.cell 3 rfl 0 (v := uv r.a) rfl
          have g4 := HM.out.cell 3 rfl 4 (v := uv r.e) rfl
          have HQ : Hid (wr.cell? ⟨ob, 7, none⟩ = some (uv r.h) ∧ wr.cell? ⟨ob, 5, none⟩ = some (uv r.f) ∧ wr.cell? ⟨ob, 6, none⟩ = some (uv r.g) ∧ wr.cell? ⟨kb, k, none⟩ = some (uv (K.getD k 0)) ∧ wr.cell? ⟨hb + 1 + 1, k, none⟩ = some (uv ((sch b 64).getD k 0))) :=
            ⟨HM.out.cell 3 rfl 7 rfl, HM.out.cell 3 rfl 5 rfl, HM.out.cell 3 rfl 6 rfl, cK, cW⟩
          have HP : Hid (wr.cell? ⟨ob, 1, none⟩ = some (uv r.b) ∧ wr.cell? ⟨ob, 2, none⟩ = some (uv r.c)) := ⟨HM.out.cell 3 rfl 1 rfl, HM.out.cell 3 rfl 2 rfl⟩
          have bk : (k : Int) < 64 := by omega
          have f_nt : ∀ (x : UInt32) (w : World), Sem.run Tryz.prog (binOp .xor 119 (.int .u32 4294967295) (uv x)) w = .ok (uv (0xffffffff ^^^ x)) w := fun x w => u_xor _ 0xffffffff x w
          clear hl cK cW
          generalize K.getD k 0 = kk at *
          generalize (sch b 64).getD k 0 = ww at *
          go_wp2
          clear g0 g4
          obtain ⟨ra, rb, rc, rd, re, rf, rg, rh⟩ := r
          refine Txt.wp_region_text (fun w' => w'.cell? ⟨ob, 7, none⟩ = some (uv rh) ∧ w'.cell? ⟨ob, 5, none⟩ = some (uv rf) ∧ w'.cell? ⟨ob, 6, none⟩ = some (uv rg) ∧ w'.cell? ⟨kb, k, none⟩ = some (uv kk) ∧ w'.cell? ⟨hb + 1 + 1, k, none⟩ = some (uv ww)) [0, 2, 0, 4, 0, 4, 0, 0, 4, 0, 0, 0, 0, 2, 0, 0, 0, 0, 2, 0, 0, 0, 0, 0, 0, 2, 0, 0, 0, 2, 0, 0] (by kernel_rfl) (by kernel_rfl) HQ.out ?_
          have HQ : Hid (wr.drew.cell? ⟨ob, 7, none⟩ = some (uv rh) ∧ wr.drew.cell? ⟨ob, 5, none⟩ = some (uv rf) ∧ wr.drew.cell? ⟨ob, 6, none⟩ = some (uv rg) ∧ wr.drew.cell? ⟨kb, k, none⟩ = some (uv kk) ∧ wr.drew.cell? ⟨hb + 1 + 1, k, none⟩ = some (uv ww)) := HQ.out
          (repeat (first | (refine Txt.tl_pure (v := ?_) (by rfl) ?_ ?_; rotate_left; (focus (intro _; go_simp; try with_reducible rfl)); simp only [Act.put, List.setIfInBounds_toArray, List.set_cons_zero, List.set_cons_succ]) | (refine Txt.tl_loadS (v := uv rh) (by rfl) (by rfl) (by rfl) (by kernel_rfl) (fun w2 h => h.1) ?_; simp only [Act.put, List.setIfInBounds_toArray, List.set_cons_zero, List.set_cons_succ]) | (refine Txt.tl_loadS (v := uv rf) (by rfl) (by rfl) (by rfl) (by kernel_rfl) (fun w2 h => h.2.1) ?_; simp only [Act.put, List.setIfInBounds_toArray, List.set_cons_zero, List.set_cons_succ]) | (refine Txt.tl_loadS (v := uv rg) (by rfl) (by rfl) (by rfl) (by kernel_rfl) (fun w2 h => h.2.2.1) ?_; simp only [Act.put, List.setIfInBounds_toArray, List.set_cons_zero, List.set_cons_succ]) | (refine Txt.tl_loadS (v := uv kk) (by rfl) (by rfl) (by rfl) (by kernel_rfl) (fun w2 h => h.2.2.2.1) ?_; simp only [Act.put, List.setIfInBounds_toArray, List.set_cons_zero, List.set_cons_succ]) | (refine Txt.tl_loadS (v := uv ww) (by rfl) (by rfl) (by rfl) (by kernel_rfl) (fun w2 h => h.2.2.2.2) ?_; simp only [Act.put, List.setIfInBounds_toArray, List.set_cons_zero, List.set_cons_succ])))
          refine Txt.tl_call Tryz.func122 (by kernel_rfl) (by kernel_rfl) (by rfl) (by rfl) (by rfl) (rotr_6 _ re) ?_
          rintro e w9 ⟨rfl, rfl⟩
          refine ⟨_, rfl, HQ.out, ?_⟩
          simp only [Act.put, List.setIfInBounds_toArray, List.set_cons_zero, List.set_cons_succ]
          (repeat (first | (refine Txt.tl_pure (v := ?_) (by rfl) ?_ ?_; rotate_left; (focus (intro _; go_simp; try with_reducible rfl)); simp only [Act.put, List.setIfInBounds_toArray, List.set_cons_zero, List.set_cons_succ]) | (refine Txt.tl_loadS (v := uv rh) (by rfl) (by rfl) (by rfl) (by kernel_rfl) (fun w2 h => h.1) ?_; simp only [Act.put, List.setIfInBounds_toArray, List.set_cons_zero, List.set_cons_succ]) | (refine Txt.tl_loadS (v := uv rf) (by rfl) (by rfl) (by rfl) (by kernel_rfl) (fun w2 h => h.2.1) ?_; simp only [Act.put, List.setIfInBounds_toArray, List.set_cons_zero, List.set_cons_succ]) | (refine Txt.tl_loadS (v := uv rg) (by rfl) (by rfl) (by rfl) (by kernel_rfl) (fun w2 h => h.2.2.1) ?_; simp only [Act.put, List.setIfInBounds_toArray, List.set_cons_zero, List.set_cons_succ]) | (refine Txt.tl_loadS (v := uv kk) (by rfl) (by rfl) (by rfl) (by kernel_rfl) (fun w2 h => h.2.2.2.1) ?_; simp only [Act.put, List.setIfInBounds_toArray, List.set_cons_zero, List.set_cons_succ]) | (refine Txt.tl_loadS (v := uv ww) (by rfl) (by rfl) (by rfl) (by kernel_rfl) (fun w2 h => h.2.2.2.2) ?_; simp only [Act.put, List.setIfInBounds_toArray, List.set_cons_zero, List.set_cons_succ])))
          refine Txt.tl_call Tryz.func122 (by kernel_rfl) (by kernel_rfl) (by rfl) (by rfl) (by rfl) (rotr_11 _ re) ?_
          rintro e w9 ⟨rfl, rfl⟩
          refine ⟨_, rfl, HQ.out, ?_⟩
          simp only [Act.put, List.setIfInBounds_toArray, List.set_cons_zero, List.set_cons_succ]
          (repeat (first | (refine Txt.tl_pure (v := ?_) (by rfl) ?_ ?_; rotate_left; (focus (intro _; go_simp; try with_reducible rfl)); simp only [Act.put, List.setIfInBounds_toArray, List.set_cons_zero, List.set_cons_succ]) | (refine Txt.tl_loadS (v := uv rh) (by rfl) (by rfl) (by rfl) (by kernel_rfl) (fun w2 h => h.1) ?_; simp only [Act.put, List.setIfInBounds_toArray, List.set_cons_zero, List.set_cons_succ]) | (refine Txt.tl_loadS (v := uv rf) (by rfl) (by rfl) (by rfl) (by kernel_rfl) (fun w2 h => h.2.1) ?_; simp only [Act.put, List.setIfInBounds_toArray, List.set_cons_zero, List.set_cons_succ]) | (refine Txt.tl_loadS (v := uv rg) (by rfl) (by rfl) (by rfl) (by kernel_rfl) (fun w2 h => h.2.2.1) ?_; simp only [Act.put, List.setIfInBounds_toArray, List.set_cons_zero, List.set_cons_succ]) | (refine Txt.tl_loadS (v := uv kk) (by rfl) (by rfl) (by rfl) (by kernel_rfl) (fun w2 h => h.2.2.2.1) ?_; simp only [Act.put, List.setIfInBounds_toArray, List.set_cons_zero, List.set_cons_succ]) | (refine Txt.tl_loadS (v := uv ww) (by rfl) (by rfl) (by rfl) (by kernel_rfl) (fun w2 h => h.2.2.2.2) ?_; simp only [Act.put, List.setIfInBounds_toArray, List.set_cons_zero, List.set_cons_succ])))
          refine Txt.tl_call Tryz.func122 (by kernel_rfl) (by kernel_rfl) (by rfl) (by rfl) (by rfl) (rotr_25 _ re) ?_
          rintro e w9 ⟨rfl, rfl⟩
          refine ⟨_, rfl, HQ.out, ?_⟩
          simp only [Act.put, List.setIfInBounds_toArray, List.set_cons_zero, List.set_cons_succ]
          (repeat (first | (refine Txt.tl_pure (v := ?_) (by rfl) ?_ ?_; rotate_left; (focus (intro _; go_simp; try with_reducible rfl)); simp only [Act.put, List.setIfInBounds_toArray, List.set_cons_zero, List.set_cons_succ]) | (refine Txt.tl_loadS (v := uv rh) (by rfl) (by rfl) (by rfl) (by kernel_rfl) (fun w2 h => h.1) ?_; simp only [Act.put, List.setIfInBounds_toArray, List.set_cons_zero, List.set_cons_succ]) | (refine Txt.tl_loadS (v := uv rf) (by rfl) (by rfl) (by rfl) (by kernel_rfl) (fun w2 h => h.2.1) ?_; simp only [Act.put, List.setIfInBounds_toArray, List.set_cons_zero, List.set_cons_succ]) | (refine Txt.tl_loadS (v := uv rg) (by rfl) (by rfl) (by rfl) (by kernel_rfl) (fun w2 h => h.2.2.1) ?_; simp only [Act.put, List.setIfInBounds_toArray, List.set_cons_zero, List.set_cons_succ]) | (refine Txt.tl_loadS (v := uv kk) (by rfl) (by rfl) (by rfl) (by kernel_rfl) (fun w2 h => h.2.2.2.1) ?_; simp only [Act.put, List.setIfInBounds_toArray, List.set_cons_zero, List.set_cons_succ]) | (refine Txt.tl_loadS (v := uv ww) (by rfl) (by rfl) (by rfl) (by kernel_rfl) (fun w2 h => h.2.2.2.2) ?_; simp only [Act.put, List.setIfInBounds_toArray, List.set_cons_zero, List.set_cons_succ])))
          refine Txt.tl_nil ?_
          go_wp2
          clear HQ
          refine Txt.wp_region_text (fun w' => w'.cell? ⟨ob, 1, none⟩ = some (uv rb) ∧ w'.cell? ⟨ob, 2, none⟩ = some (uv rc)) [0, 4, 0, 4, 0, 0, 4, 0, 0, 0, 2, 0, 0, 0, 2, 0, 0, 0, 2, 0, 2, 0, 0, 0, 0] (by kernel_rfl) (by kernel_rfl) HP.out ?_
          have HQ : Hid (wr.drew.drew.cell? ⟨ob, 1, none⟩ = some (uv rb) ∧ wr.drew.drew.cell? ⟨ob, 2, none⟩ = some (uv rc)) := HP.out
          (repeat (first | (refine Txt.tl_pure (v := ?_) (by rfl) ?_ ?_; rotate_left; (focus (intro _; go_simp; try with_reducible rfl)); simp only [Act.put, List.setIfInBounds_toArray, List.set_cons_zero, List.set_cons_succ]) | (refine Txt.tl_loadS (v := uv rb) (by rfl) (by rfl) (by rfl) (by kernel_rfl) (fun w2 h => h.1) ?_; simp only [Act.put, List.setIfInBounds_toArray, List.set_cons_zero, List.set_cons_succ]) | (refine Txt.tl_loadS (v := uv rc) (by rfl) (by rfl) (by rfl) (by kernel_rfl) (fun w2 h => h.2) ?_; simp only [Act.put, List.setIfInBounds_toArray, List.set_cons_zero, List.set_cons_succ])))
          refine Txt.tl_call Tryz.func122 (by kernel_rfl) (by kernel_rfl) (by rfl) (by rfl) (by rfl) (rotr_2 _ ra) ?_
          rintro e w9 ⟨rfl, rfl⟩
          refine ⟨_, rfl, HQ.out, ?_⟩
          simp only [Act.put, List.setIfInBounds_toArray, List.set_cons_zero, List.set_cons_succ]
          (repeat (first | (refine Txt.tl_pure (v := ?_) (by rfl) ?_ ?_; rotate_left; (focus (intro _; go_simp; try with_reducible rfl)); simp only [Act.put, List.setIfInBounds_toArray, List.set_cons_zero, List.set_cons_succ]) | (refine Txt.tl_loadS (v := uv rb) (by rfl) (by rfl) (by rfl) (by kernel_rfl) (fun w2 h => h.1) ?_; simp only [Act.put, List.setIfInBounds_toArray, List.set_cons_zero, List.set_cons_succ]) | (refine Txt.tl_loadS (v := uv rc) (by rfl) (by rfl) (by rfl) (by kernel_rfl) (fun w2 h => h.2) ?_; simp only [Act.put, List.setIfInBounds_toArray, List.set_cons_zero, List.set_cons_succ])))
          refine Txt.tl_call Tryz.func122 (by kernel_rfl) (by kernel_rfl) (by rfl) (by rfl) (by rfl) (rotr_13 _ ra) ?_
          rintro e w9 ⟨rfl, rfl⟩
          refine ⟨_, rfl, HQ.out, ?_⟩
          simp only [Act.put, List.setIfInBounds_toArray, List.set_cons_zero, List.set_cons_succ]
          (repeat (first | (refine Txt.tl_pure (v := ?_) (by rfl) ?_ ?_; rotate_left; (focus (intro _; go_simp; try with_reducible rfl)); simp only [Act.put, List.setIfInBounds_toArray, List.set_cons_zero, List.set_cons_succ]) | (refine Txt.tl_loadS (v := uv rb) (by rfl) (by rfl) (by rfl) (by kernel_rfl) (fun w2 h => h.1) ?_; simp only [Act.put, List.setIfInBounds_toArray, List.set_cons_zero, List.set_cons_succ]) | (refine Txt.tl_loadS (v := uv rc) (by rfl) (by rfl) (by rfl) (by kernel_rfl) (fun w2 h => h.2) ?_; simp only [Act.put, List.setIfInBounds_toArray, List.set_cons_zero, List.set_cons_succ])))
          refine Txt.tl_call Tryz.func122 (by kernel_rfl) (by kernel_rfl) (by rfl) (by rfl) (by rfl) (rotr_22 _ ra) ?_
          rintro e w9 ⟨rfl, rfl⟩
          refine ⟨_, rfl, HQ.out, ?_⟩
          simp only [Act.put, List.setIfInBounds_toArray, List.set_cons_zero, List.set_cons_succ]
          (repeat (first | (refine Txt.tl_pure (v := ?_) (by rfl) ?_ ?_; rotate_left; (focus (intro _; go_simp; try with_reducible rfl)); simp only [Act.put, List.setIfInBounds_toArray, List.set_cons_zero, List.set_cons_succ]) | (refine Txt.tl_loadS (v := uv rb) (by rfl) (by rfl) (by rfl) (by kernel_rfl) (fun w2 h => h.1) ?_; simp only [Act.put, List.setIfInBounds_toArray, List.set_cons_zero, List.set_cons_succ]) | (refine Txt.tl_loadS (v := uv rc) (by rfl) (by rfl) (by rfl) (by kernel_rfl) (fun w2 h => h.2) ?_; simp only [Act.put, List.setIfInBounds_toArray, List.set_cons_zero, List.set_cons_succ])))
          refine Txt.tl_nil ?_
          go_wp2
          clear HQ HP
          obtain ⟨r, hr⟩ : ∃ r : R8, (⟨ra, rb, rc, rd, re, rf, rg, rh⟩ : R8) = r := ⟨_, rfl⟩
          have Ht : Hid (rt kk ww r = rh + (rotr re 6 ^^^ rotr re 11 ^^^ rotr re 25) + (re &&& rf ^^^ (0xffffffff ^^^ re) &&& rg) + kk + ww) := by rw [← hr]; rfl
          have Hu : Hid (ru r = (rotr ra 2 ^^^ rotr ra 13 ^^^ rotr ra 22) + (ra &&& rb ^^^ ra &&& rc ^^^ rb &&& rc)) := by rw [← hr]; rfl
          rw [hr] at HM HR
          have HM : Hid (M (fun _ => False) w wr.drew.drew [blk hb (.cells (us (toL s)) 120), blk (hb + 1) (.cells (us (List.replicate 8 0)) 120), blk (hb + 1 + 1) (.cells (us (sch b 64)) 147), blk ob (.cells (us (toL r)) 120)]) := HM.out.drew.drew
          have e1 : rh + (rotr re 6 ^^^ rotr re 11 ^^^ rotr re 25) + (re &&& rf ^^^ (0xffffffff ^^^ re) &&& rg) + kk + ww = rt kk ww r := Ht.out.symm
          have e2 : (rotr ra 2 ^^^ rotr ra 13 ^^^ rotr ra 22) + (ra &&& rb ^^^ ra &&& rc ^^^ rb &&& rc) = ru r := Hu.out.symm
          first | rw [e1, e2] | (simp only [UInt32.ofNat] at e1 e2 ⊢; go_outline)
          clear e1 e2 Ht Hu hr
          have HR : Hid (rnds (sch b 64) s (k + 1) = ⟨rt kk ww r + ru r, r.a, r.b, r.c, r.d + rt kk ww r, r.e, r.f, r.g⟩) := HR.out
          generalize rt kk ww r = t1 at *
          generalize ru r = t2 at *
          go_loopw [17] (fun s17 wq => ∃ j : Nat, j ≤ 7 ∧ s17 = .int .i64 j ∧ M (fun _ => False) w wq [blk hb (.cells (us (toL s)) 120), blk (hb + 1) (.cells (us (List.replicate 8 0)) 120), blk (hb + 1 + 1) (.cells (us (sch b 64)) 147), blk ob (.cells (us (shf r j)) 120)]) (fun s17 _ => (intOf s17).toNat)
          case atStart => exact ⟨7, by omega, rfl, HM.out⟩
          case round =>
            obtain ⟨j, hj, rfl, hM⟩ := hrel
            have HM : Hid (M (fun _ => False) w wr [blk hb (.cells (us (toL s)) 120), blk (hb + 1) (.cells (us (List.replicate 8 0)) 120), blk (hb + 1 + 1) (.cells (us (sch b 64)) 147), blk ob (.cells (us (shf r j)) 120)]) := hM
            clear hM
            by_cases h0 : 0 < j
            · have Ho : Hid _ := shf_old r j h0 hj
              have HX : Hid _ := shf_set r j h0 hj
              have c1 := HM.out.cell 3 rfl (j - 1) (shf_at r j h0 hj)
              obtain ⟨q, hq⟩ : ∃ q, j - 1 = q := ⟨_, rfl⟩
              rw [hq] at HX c1
              have wq : IntKind.i64.wrap (q : Int) = (q : Int) := IntWalk.i64_in _ (by omega)
              have vq : (j : Int) - 1 = (q : Int) := by omega
              have bq : (q : Int) < 8 := by omega
              have bj : (j : Int) < 8 := by omega
              have hqj : q < j := by omega
              clear hq
              generalize (toL r).getD q 0 = x at *
              go_wp2_with (refine Sha.wl_store (v := x) rfl rfl rfl rfl rfl (HM.out.cell 3 rfl j Ho.out) (HM.out.free 3 rfl j) ?_; have HM : Hid _ := HM.out.setc 3 rfl j (uv x))
              go_roundw
              case rel =>
                refine ⟨q, by omega, rfl, ?_⟩
                rw [← HX.out]
                exact HM.out
              case measure => simp [intOf]; omega
            · obtain rfl : j = 0 := by omega
              have HX : Hid (((us (shf r 0)).setIfInBounds 4 (uv (r.d + t1))).setIfInBounds 0 (uv (t1 + t2)) = us [t1 + t2, r.a, r.b, r.c, r.d + t1, r.e, r.f, r.g]) := rfl
              have c4 := HM.out.cell 3 rfl 4 (v := uv r.d) rfl
              go_wp2_with (first | (refine Sha.wl_store (v := r.d + t1) (p := ⟨ob, 4, none⟩) rfl rfl rfl rfl rfl (HM.out.cell 3 rfl 4 (v := uv r.d) rfl) (HM.out.free 3 rfl 4) ?_; have HM : Hid _ := HM.out.setc 3 rfl 4 (uv (r.d + t1))) | (refine Sha.wl_store (v := t1 + t2) (p := ⟨ob, 0, none⟩) rfl rfl rfl rfl rfl (HM.out.cell 3 rfl 0 (v := uv r.a) rfl) (HM.out.free 3 rfl 0) ?_; have HM : Hid _ := HM.out.setc 3 rfl 0 (uv (t1 + t2))))
              go_roundw
              case rel =>
                refine ⟨k + 1, by omega, rfl, ?_⟩
                rw [HR.out]
                have e := HM.out
                exact e
              case measure => simp [intOf]; omega
        · obtain rfl : k = 64 := by omega
          obtain ⟨r, hr⟩ : ∃ r, rnds (sch b 64) s 64 = r := ⟨_, rfl⟩
          have HR : Hid (turn s b = addR r s) := by show turn s b = addR r s; unfold turn; rw [hr, addR_comm]
          rw [hr] at HM
          clear hr
          go_wp2
          simp only [show ((64 : Nat) : Int) = 64 from rfl]
          go_loopw [18] (fun s18 wq => ∃ j : Nat, j ≤ 8 ∧ s18 = .int .i64 j ∧ M (fun _ => False) w wq [blk hb (.cells (us (toL s)) 120), blk (hb + 1) (.cells (us (List.replicate 8 0)) 120), blk (hb + 1 + 1) (.cells (us (sch b 64)) 147), blk ob (.cells (us (mix r s j)) 120)]) (fun s18 _ => 8 - (intOf s18).toNat)
          case atStart => exact ⟨0, by omega, rfl, HM.out⟩
          case round =>
            obtain ⟨j, hj, rfl, hM⟩ := hrel
            have HM : Hid (M (fun _ => False) w wr [blk hb (.cells (us (toL s)) 120), blk (hb + 1) (.cells (us (List.replicate 8 0)) 120), blk (hb + 1 + 1) (.cells (us (sch b 64)) 147), blk ob (.cells (us (mix r s j)) 120)]) := hM
            clear hM
            by_cases hlt8 : j < 8
            · have bj : (j : Int) < 8 := by omega
              have hX := mix_set r s [] j hlt8
              have hcell := HM.out.cell 3 rfl j (by rw [← sc_nil]; exact mix_at r s [] j hlt8)
              have hfz := HM.out.free 3 rfl j
              have hs := HM.out.cell 0 rfl j (v := uv ((toL s).getD j 0)) (by rw [← sc_nil]; have e := mix_at s r [] j hlt8; rcases (show j = 0 ∨ j = 1 ∨ j = 2 ∨ j = 3 ∨ j = 4 ∨ j = 5 ∨ j = 6 ∨ j = 7 by omega) with rfl | rfl | rfl | rfl | rfl | rfl | rfl | rfl <;> rfl)
              rw [sc_nil, sc_nil] at hX
              have HX : Hid _ := hX
              clear hX
              generalize (toL r).getD j 0 = xr at *
              generalize (toL s).getD j 0 = xs at *
              go_wp2
              refine Txt.wp_region_text (fun _ => True) [0, 0, 0, 1, 0, 0, 1, 0, 0, 4] (by kernel_rfl) (by kernel_rfl) trivial ?_
              repeat (first
                | (refine Txt.tl_pure (v := ?_) (by rfl) ?_ ?_; rotate_left; (focus (intro _; go_simp; try with_reducible rfl)); simp only [Act.put, List.setIfInBounds_toArray, List.set_cons_zero, List.set_cons_succ])
                | (refine Txt.tl_skip (by rfl) trivial ?_; simp only [Act.put, List.setIfInBounds_toArray, List.set_cons_zero, List.set_cons_succ])
                | (refine Txt.tl_load (v := ?_) (by rfl) (by rfl) (by rfl) (by kernel_rfl) ?_ ?_; rotate_left; (focus (first | assumption | (go_simp; done) | (go_simp; with_reducible rfl))); simp only [Act.put, List.setIfInBounds_toArray, List.set_cons_zero, List.set_cons_succ])
                | (refine Txt.tl_alloc (by rfl) ?_; go_simp; refine ⟨by (first | exact Txt.Le.alloc_drew _ _ | exact Txt.Le.alloc _ _), ?_⟩))
              refine Txt.tl_loud (by rfl) ?_
              refine wp_store rfl rfl (by rfl) (by rfl) hcell hfz ?_
              refine ⟨trivial, ?_⟩
              refine Txt.tl_nil ?_
              go_wp2
              go_roundw
              case rel =>
                refine ⟨j + 1, by omega, rfl, ?_⟩
                rw [← HX.out]
                exact HM.out.drew.setc 3 rfl j _
              case measure => simp [intOf]; omega
            · obtain rfl : j = 8 := by omega
              have HF : Hid (mix r s 8 = toL (turn s b)) := by show mix r s 8 = toL (turn s b); rw [HR.out]; rfl
              rw [HF.out] at HM
              go_wp2_with (first | (refine St.wl_load ty8 (by rfl) rfl rfl (HM.out.range 3 rfl) rfl ?_; simp only [Act.put, List.setIfInBounds_toArray, List.set_cons_zero, List.set_cons_succ]) | (refine St.wl_store ty8 rfl rfl rfl rfl rfl (cs := us (toL (turn s b))) rfl (us_one _) (HM.out.get 1 rfl) (by simp) ?_; have HM : Hid _ := HM.out.setr 1 rfl (us (toL (turn s b)))))
              refine bodyPost_ret (St.res1 ty8 rfl _ _ _ (us (toL (turn s b))) rfl rfl (HM.out.get 1 rfl)) rfl ?_
              exact ⟨rfl, HM.out.keep⟩
end Sha
end Go.Proofs.YtgllkfolckbdhaaGreatDoor


namespace Go.Proofs.YtgllkfolckbdhaaGreatDoor
open Go.RowKit
namespace Sha
open Oct Mem
/-- A row of bytes whose block may be one that a string was turned into. -/
def Sl (w : World) (v : Value) (bs : List UInt8) : Prop :=
  ∃ g cap cur fz, v = .slice (some ⟨g, 0, none⟩) bs.length cap ∧ w.heap[g]? = some (.cells cur 5 fz) ∧ (fz = (0, 0) ∨ fz = (cur.size, cur.size + 1)) ∧ bs.length ≤ cap ∧ cap ≤ maxLen ∧ cur.size = cap ∧ cur.toList.take bs.length = bs.map bv
theorem Sl.of_own {w : World} {v : Value} {bs : List UInt8} (h : Byt.Own w v bs) (hv : v ≠ .slice none 0 0) : Sl w v bs := by
  rcases h.own.2 with e | ⟨g, cap, cur, h1, _, h2, h3, h4, h5, h6⟩
  · exact absurd e.1 hv
  · exact ⟨g, cap, cur, (0, 0), h1, h2, .inl rfl, h3, h4, by rw [h5, Nat.mul_one], by rw [Nat.mul_one] at h6; exact h6⟩
theorem Sl.calm {w w' : World} {v : Value} {bs : List UInt8} (h : Sl w v bs) (k : Keep (fun _ => False) w w') : Sl w' v bs := by
  obtain ⟨g, cap, cur, fz, h1, h2, h3⟩ := h
  exact ⟨g, cap, cur, fz, h1, k.get h2 (fun h => h), h3⟩
theorem Sl.lt {w : World} {v : Value} {bs : List UInt8} (h : Sl w v bs) (k : Nat) (hk : v.ownBlock = some k) : k < w.heap.size := by
  obtain ⟨g, cap, cur, fz, h1, h2, h3⟩ := h
  subst h1
  have e : g = k := Option.some.inj hk
  subst e
  exact lt_of_block h2
def slI (v : Value) (bs : List UInt8) : It := ⟨fun k => v.ownBlock = some k, fun w => Sl w v bs, fun _ _ _ h k n => by
  obtain ⟨g, cap, cur, fz, h1, h2, h3⟩ := h
  exact ⟨g, cap, cur, fz, h1, k.get h2 (n g (by rw [h1]; rfl)), h3⟩⟩
theorem M.addS {F : Nat → Prop} {w0 w w' : World} {l : List It} (h : M F w0 w l) {v : Value} {bs : List UInt8} (k1 : Keep (fun _ => False) w w') (h1 : Sl w' v bs) (g1 : ∀ k, v.ownBlock = some k → w.heap.size ≤ k) : M F w0 w' (l ++ [slI v bs]) :=
  h.add (x := slI v bs) k1 h1 (fun k hk => ⟨g1 k hk, h1.lt k hk⟩)
theorem M.appS {F : Nat → Prop} {w0 w w' : World} {l : List It} (h : M F w0 w l) (i : Nat) {v v' : Value} {bs bs' : List UInt8} (hi : l[i]? = some (slI v bs)) (h1 : Sl w' v' bs') (k1 : Keep (fun k => v.ownBlock = some k) w w') (g1 : ∀ k, v'.ownBlock = some k → v.ownBlock = some k ∨ w.heap.size ≤ k) : M F w0 w' (l.set i (slI v' bs')) :=
  h.upd i hi k1 (fun _ h => h) (y := slI v' bs') h1 (fun k hk => (g1 k hk).imp id (fun e => ⟨e, h1.lt k hk⟩))
theorem Sl.app {w : World} {v : Value} {bs : List UInt8} (h : Sl w v bs) {g : Nat} {d : UInt8} {fr : Nat × Nat} (hg : w.heap[g]? = some (.cells #[bv d] 5 fr)) (hm : bs.length ≤ 1000000) (ty : TypeId) :
    ∃ v' w', (Builtin.append_ #[113, 113] ty #[v, .slice (some ⟨g, 0, none⟩) 1 1]).run Tryz.prog w = .ok v' w' ∧ Sl w' v' (bs ++ [d]) ∧ Keep (fun k => v.ownBlock = some k) w w' ∧ ∀ k, v'.ownBlock = some k → v.ownBlock = some k ∨ w.heap.size ≤ k := by
  obtain ⟨g0, cap, cur, fz, rfl, hg0, hfz, hle, hcm, hsz, htk⟩ := h
  obtain ⟨i, hi, hz, hs1, hby⟩ := slU8.info
  have hl1 : (bs ++ [d]).length = bs.length + 1 := by simp
  by_cases hroom : bs.length + 1 ≤ cap
  · have hcell : (w.cell? ⟨g0, bs.length, none⟩).isSome = true := by rw [cell_of hg0]; rw [Array.getElem?_eq_getElem (by omega)]; rfl
    have hfr : w.frozen? ⟨g0, bs.length, none⟩ = false := by
      unfold World.frozen?
      simp only [hg0]
      rcases hfz with e | e <;> subst e <;> simp <;> omega
    refine ⟨_, _, run_append_room_cells (P := Tryz.prog) w _ ty _ i slU8.und hi g0 0 bs.length cap ⟨g, 0, none⟩ 1 1 [bv d] (by rw [hs1]; rfl) (World.news_of_block hg) (by simp [bv, Value.oneCell']) hroom (fun j hj => ?_) (fun j hj => ?_), ?_, ?_, fun k hk => .inl hk⟩
    · obtain rfl : j = 0 := by simpa using hj
      simpa [hs1] using hcell
    · obtain rfl : j = 0 := by simpa using hj
      simpa [hs1] using hfr
    · refine ⟨g0, cap, cur.setIfInBounds (0 + bs.length * i.size) (bv d), fz, by rw [hl1], block_set hg0 _, by rw [Array.size_setIfInBounds]; exact hfz, by rw [hl1]; exact hroom, hcm, by rw [Array.size_setIfInBounds]; exact hsz, ?_⟩
      rw [hs1, Nat.mul_one, Nat.zero_add, hl1, Array.toList_setIfInBounds, List.take_add_one, List.take_set_of_le (Nat.le_refl _), htk, List.getElem?_set_self (by have e : cur.toList.length = cur.size := Array.length_toList; omega), List.map_append]
      rfl
    · exact (Keep.refl _ _).setCell _ _ (fun _ => rfl)
  · obtain ⟨v', w', hr, h2, h3⟩ := run_append_arg_grows (P := Tryz.prog) w _ ty _ i _ 1 1 slU8.und hi hz hs1 hby rfl (by omega) ⟨g0, 0, none⟩ bs.length cap (bs.map bv) (by simp) (fun j u hj => by
      rw [← htk] at hj
      have hj2 := (List.getElem?_eq_some_iff.1 hj).1
      rw [List.length_take] at hj2
      rw [List.getElem?_take_of_lt (by omega)] at hj
      rw [Addr.add_mid, Nat.zero_add, cell_of hg0, ← Array.getElem?_toList]
      exact hj) ⟨g, 0, none⟩ 1 1 [bv d] rfl (World.news_of_block hg) (by omega) (by unfold maxLen; omega) (by omega)
    have hne : v' ≠ .slice none 0 0 := by
      intro e
      rcases h2.2 with ⟨_, e2⟩ | ⟨g1, cap1, cur1, e2, _⟩
      · omega
      · rw [e] at e2; cases e2
    refine ⟨v', w', hr, Sl.of_own ⟨?_⟩ hne, (Keep.refl _ _).grown h3 (fun k e _ => by cases e), ?_⟩
    · rw [hl1, List.map_append]
      refine ⟨h2.1, ?_⟩
      rcases h2.2 with e | ⟨g1, cap1, cur1, e1, _, e2⟩
      · exact .inl e
      · exact .inr ⟨g1, cap1, cur1, e1, Nat.zero_le _, e2⟩
    · intro k hk
      rcases h2.2 with ⟨_, e2⟩ | ⟨g1, cap1, cur1, e1, e2, _⟩
      · omega
      · subst e1
        have e : g1 = k := Option.some.inj hk
        exact .inr (by omega)
section
variable {ops : Array Oper} {rest : List Oper} {o : Oper} {a : Act} {w : World} {K : Act → World → Prop} {Q : Exit → Act → World → Prop}
theorem wp_sl1 {s x : Operand} (ho : o.op = .call { callee := .builtin .append, args := #[s, x], argTypes := #[113, 113] }) {v : Value} {bs : List UInt8} (hs : a.eval s = v) (hown : Sl w v bs)
    {g : Nat} (hx : a.eval x = .slice (some ⟨g, 0, none⟩) 1 1) {d : UInt8} {fr : Nat × Nat} (hg : w.heap[g]? = some (.cells #[bv d] 5 fr)) (hm : bs.length ≤ 1000000)
    (h : ∀ v' w', Sl w' v' (bs ++ [d]) → Keep (fun k => v.ownBlock = some k) w w' → (∀ k, v'.ownBlock = some k → v.ownBlock = some k ∨ w.heap.size ≤ k) → K (a.put o.dst v') w') : o.wp Tryz.prog a w K Q := by
  obtain ⟨v', w', hr, h1, h2, h3⟩ := hown.app hg hm o.type
  unfold Oper.wp execOp
  simp only [ho, resolve, invoke, builtin, Sem.run_bind, Sem.run_pure, Result.andThen_ok, List.map_toArray, List.map_cons, List.map_nil, hs, hx, hr]
  exact h v' w' h1 h2 h3
theorem wl_sl1 (hgd : o.guard = none) {s x : Operand} (ho : o.op = .call { callee := .builtin .append, args := #[s, x], argTypes := #[113, 113] }) {v : Value} {bs : List UInt8} (hs : a.eval s = v) (hown : Sl w v bs)
    {g : Nat} (hx : a.eval x = .slice (some ⟨g, 0, none⟩) 1 1) {d : UInt8} {fr : Nat × Nat} (hg : w.heap[g]? = some (.cells #[bv d] 5 fr)) (hm : bs.length ≤ 1000000)
    (h : ∀ v' w', Sl w' v' (bs ++ [d]) → Keep (fun k => v.ownBlock = some k) w w' → (∀ k, v'.ownBlock = some k → v.ownBlock = some k ∨ w.heap.size ≤ k) → wpList Tryz.prog ops Q rest (a.put o.dst v') w') : wpList Tryz.prog ops Q (o :: rest) a w :=
  wpList_plain hgd fun _ hK => wp_sl1 ho hs hown hx hg hm fun v' w' h1 h2 h3 => hK _ _ (h v' w' h1 h2 h3)
theorem wl_ofStr (hgd : o.guard = none) {x : Operand} (ho : o.op = .convert 9 113 x) {s : ByteArray} (hx : a.eval x = .string s) (hm : s.size ≤ 1000000)
    (h : ∀ v' w', Sl w' v' s.data.toList → Keep (fun _ => False) w w' → (∀ k, v'.ownBlock = some k → w.heap.size ≤ k) → wpList Tryz.prog ops Q rest (a.put o.dst v') w') : wpList Tryz.prog ops Q (o :: rest) a w :=
  wpList_plain hgd fun K hK => by
    have hr := run_bytes_of_string (P := Tryz.prog) w 9 113 5 s Tryz.underlying9 Tryz.underlying113 Tryz.underlying5
    have hge := grownCap_ge w s.size 0 5
    have hle := grownCap_le_maxLen w s.size 0 5 (by unfold maxLen; omega)
    generalize grownCap w s.size 0 5 = cap at *
    have hsz : (bytesRow s cap).size = cap := by unfold bytesRow; simp; omega
    unfold Oper.wp execOp
    simp only [ho, hx, Sem.run_bind, hr, Result.andThen_ok]
    refine hK _ _ (h _ _ ⟨w.heap.size, cap, bytesRow s cap, _, rfl, heap_alloc_new w.drew _, .inr rfl, hge, hle, hsz, ?_⟩ ((Keep.refl _ _).drew.alloc _) (fun k hk => ?_))
    · have e : s.data.toList.length = s.size := rfl
      unfold bytesRow
      rw [Array.toList_append, Array.toList_map, List.take_append_of_le_length (by rw [List.length_map, e]; exact Nat.le_refl _), List.take_of_length_le (by rw [List.length_map]; exact Nat.le_refl _)]
      rfl
    · have e : w.heap.size = k := Option.some.inj hk
      omega
end
theorem flat_at (r : R8) (k : Nat) (h : k < 32) : ((toL r).flatMap wb)[k]? = some ((((toL r).getD (k / 4) 0) >>> UInt32.ofNat (24 - 8 * (k % 4))).toUInt8) := by
  have e0 (x : UInt32) : x >>> (UInt32.ofNat 0) = x := by simp
  have h0 : k / 4 = 0 ∨ k / 4 = 1 ∨ k / 4 = 2 ∨ k / 4 = 3 ∨ k / 4 = 4 ∨ k / 4 = 5 ∨ k / 4 = 6 ∨ k / 4 = 7 := by omega
  have h1 : k % 4 = 0 ∨ k % 4 = 1 ∨ k % 4 = 2 ∨ k % 4 = 3 := by omega
  have hk : k = 4 * (k / 4) + k % 4 := by omega
  generalize k / 4 = q at *
  generalize k % 4 = m at *
  subst hk
  rcases h1 with rfl | rfl | rfl | rfl <;> rcases h0 with rfl | rfl | rfl | rfl | rfl | rfl | rfl | rfl <;> first | rfl | (rw [show 24 - 8 * 3 = 0 from rfl, e0]; rfl)
/-- What is laid of the sum. -/
def os (F : List UInt8) (k : Nat) : Array Value := ((F.take k ++ List.replicate (32 - k) 0).map bv).toArray
theorem os_at (F : List UInt8) (hF : F.length = 32) (k : Nat) (h : k < 32) : (os F k)[k]? = some (bv 0) := by
  unfold os
  rw [List.getElem?_toArray, List.getElem?_map, List.getElem?_append_right (by rw [List.length_take]; omega), List.length_take, List.getElem?_replicate, if_pos (by omega)]
  rfl
theorem os_set (F : List UInt8) (hF : F.length = 32) (k : Nat) (b : UInt8) (h : F[k]? = some b) : (os F k).setIfInBounds k (bv b) = os F (k + 1) := by
  have hk : k < F.length := (List.getElem?_eq_some_iff.1 h).1
  unfold os
  rw [List.setIfInBounds_toArray]
  refine congrArg List.toArray ?_
  rw [← List.map_set, List.set_append, if_neg (by rw [List.length_take]; omega), List.length_take, show k - min k F.length = 0 by omega, show 32 - k = (32 - (k + 1)) + 1 by omega, List.replicate_succ, List.set_cons_zero, List.take_add_one, h, List.append_assoc]
  rfl
set_option maxHeartbeats 2000000 in
set_option maxRecDepth 100000 in
theorem xsum_any (w : World) (s : ByteArray) (hs : s.size ≤ 999000) :
    Calls Tryz.prog 63 #[.string s] w fun e w' => e = .returned (Ids.idv (sum s.data.toList)) ∧ Keep (fun _ => False) w w' := by
  have Hs : Hid (s.size ≤ 1000000) := by show _ ≤ _; omega
  have HM : Hid (M (fun _ => False) w _ [blk w.heap.size (.cells Ids.z32 24)]) := (M.start _ w).alloc (.cells Ids.z32 24) rfl
  obtain ⟨bs, hbs⟩ : ∃ l, s.data.toList = l := ⟨_, rfl⟩
  obtain ⟨n, hn⟩ : ∃ n, s.size = n := ⟨_, rfl⟩
  have HN : Hid (n ≤ 1000000) := hn ▸ Hs.out
  have Hm1 : Hid (n ≤ 999000) := hn ▸ hs
  have Hl : Hid (bs.length = n) := by show _ = _; rw [← hbs, ← hn]; rfl
  have HLb : Hid (bs.length ≤ 1000000) := Hl.out ▸ HN.out
  have HSz : Hid (s.size = n) := hn
  have HBs : Hid (s.data.toList = bs) := hbs
  rw [hbs]
  clear hn hbs
  clear hs
  go_enter Tryz.func63, Tryz.ntmps63
  go_wp2_with (first | (refine wl_ofStr rfl rfl rfl Hs.out ?_; intro v1 w1 h1 k1 g1; have HM : Hid (M (fun _ => False) w w1 [blk w.heap.size (.cells Ids.z32 24), slI v1 bs]) := Sha.M.addS HM.out k1 (HBs.out ▸ h1) g1; clear h1 k1 g1; simp only [Act.put, List.setIfInBounds_toArray, List.set_cons_zero, List.set_cons_succ]) | (refine wl_sl1 rfl rfl rfl ((HM.out.calm ((Keep.refl _ _).alloc _)).get 1 rfl) rfl (d := 0x80) (heap_alloc_new _ _) HLb.out ?_; intro v2 w2 h1 k1 g1; have HM : Hid (M (fun _ => False) w w2 [blk w.heap.size (.cells Ids.z32 24), slI v2 (bs ++ [0x80])]) := Sha.M.appS (HM.out.calm ((Keep.refl _ _).alloc _)) 1 rfl h1 k1 g1; clear h1 k1 g1; simp only [Act.put, List.setIfInBounds_toArray, List.set_cons_zero, List.set_cons_succ]))
  obtain ⟨ob, hob⟩ : ∃ b, w.heap.size = b := ⟨_, rfl⟩
  rw [hob] at HM ⊢
  clear hob
  go_loopg [3] (zs n) (fun kx s3 wr => ∃ z : Nat, z ≤ zs n ∧ zs n - z ≤ kx ∧ M (fun _ => False) w wr [blk ob (.cells Ids.z32 24), slI s3 (bs ++ [0x80] ++ List.replicate z 0)])
  case atStart => exact ⟨0, Nat.zero_le _, by omega, by rw [List.replicate_zero, List.append_nil]; exact HM.out⟩
  case round =>
    obtain ⟨z, hz, hkx, hM⟩ := hrel
    have HM : Hid (M (fun _ => False) w wr [blk ob (.cells Ids.z32 24), slI u3 (bs ++ [0x80] ++ List.replicate z 0)]) := hM
    obtain ⟨g3, c3, _, _, rfl, _⟩ := hM.get 1 rfl
    obtain ⟨L, hL⟩ : ∃ L, (bs ++ [0x80] ++ List.replicate z 0).length = L := ⟨_, rfl⟩
    have hL2 : L = n + 1 + z := by rw [← hL, List.length_append, List.length_append, List.length_replicate, Hl.out]; simp
    rw [hL] at HM ⊢
    have hzb : z ≤ 63 := by have : zs n < 64 := (by unfold zs; omega); omega
    have HLb2 : Hid ((bs ++ [0x80] ++ List.replicate z 0).length ≤ 1000000) := by show _ ≤ _; rw [hL, hL2]; have := Hm1.out; omega
    have hzs : zs n = (119 - n % 64) % 64 := rfl
    have hLb : L ≤ 1000000 := by have := HLb2.out; omega
    by_cases hlt : z < zs n
    · have hq : ((L : Int) % 64 != 56) = true := by simp; omega
      clear hL hL2 hzs hM
      go_wp2_with (first | (refine wl_sl1 rfl rfl rfl ((HM.out.calm ((Keep.refl _ _).alloc _)).get 1 rfl) rfl (d := 0) (heap_alloc_new _ _) HLb2.out ?_; intro v2 w2 h1 k1 g1; have HM : Hid (M (fun _ => False) w w2 [blk ob (.cells Ids.z32 24), slI v2 (bs ++ [0x80] ++ List.replicate z 0 ++ [0])]) := Sha.M.appS (HM.out.calm ((Keep.refl _ _).alloc _)) 1 rfl h1 k1 g1; clear h1 k1 g1; simp only [Act.put, List.setIfInBounds_toArray, List.set_cons_zero, List.set_cons_succ]))
      go_roundg (zs n - (z + 1))
      case measure => omega
      case rel =>
        refine ⟨z + 1, by omega, Nat.le_refl _, ?_⟩
        rw [List.replicate_succ', ← List.append_assoc]
        exact HM.out
    · have hq : ((L : Int) % 64 != 56) = false := by simp; omega
      obtain rfl : z = zs n := by omega
      clear hL2 hzs hM
      have hu1 : IntKind.u64.wrap (s.size : Int) = (n : Int) := by rw [HSz.out, IntKind.wrap_u64]; have := HN.out; omega
      obtain ⟨N, hN8⟩ : ∃ N, 8 * n = N := ⟨_, rfl⟩
      have hu2 : IntKind.u64.wrap ((n : Int) * 8) = (N : Int) := by rw [IntKind.wrap_u64]; have := HN.out; omega
      have HN8 : Hid (8 * n = N) := hN8
      have hNb : N ≤ 8000000 := by have := HN.out; omega
      clear hN8
      go_wp2
      try simp only [hu1, hu2]
      clear hu1 hu2 hq
      have HB8 : Hid ((be8 N).length = 8) := be8_len _
      have HM : Hid (M (fun _ => False) w wr [blk ob (.cells Ids.z32 24), slI (.slice (some ⟨g3, 0, none⟩) L c3) (bs ++ [0x80] ++ List.replicate (zs n) 0 ++ (be8 N).take 0)]) := by
        show M _ _ _ _
        rw [List.take_zero, List.append_nil]
        exact HM.out
      go_loopg [3, 5] 8 (fun kx s3 s5 wr => ∃ (k : Nat) (j : Int), (k : Int) + j = 7 ∧ k ≤ 8 ∧ 8 - k ≤ kx ∧ s5 = .int .i64 j ∧ M (fun _ => False) w wr [blk ob (.cells Ids.z32 24), slI s3 (bs ++ [0x80] ++ List.replicate (zs n) 0 ++ (be8 N).take k)])
      case atStart => exact ⟨0, 7, rfl, by omega, by omega, rfl, HM.out⟩
      case round =>
        obtain ⟨k, j, hj, hk, hkx, rfl, hM⟩ := hrel
        have HM : Hid (M (fun _ => False) w wr [blk ob (.cells Ids.z32 24), slI u3 (bs ++ [0x80] ++ List.replicate (zs n) 0 ++ (be8 N).take k)]) := hM
        obtain ⟨g4, c4, _, _, rfl, _⟩ := hM.get 1 rfl
        obtain ⟨L2, hL2⟩ : ∃ L, (bs ++ [0x80] ++ List.replicate (zs n) 0 ++ (be8 N).take k).length = L := ⟨_, rfl⟩
        rw [hL2] at HM ⊢
        clear hM
        have HLb3 : Hid ((bs ++ [0x80] ++ List.replicate (zs n) 0 ++ (be8 N).take k).length ≤ 1000000) := by
          show _ ≤ _
          have q1 : zs n < 64 := by unfold zs; omega
          have q2 := Hm1.out
          rw [List.length_append, List.length_append, List.length_append, List.length_replicate, List.length_take, Hl.out, HB8.out]
          simp only [List.length_cons, List.length_nil]
          omega
        by_cases hlt : k < 8
        · rcases (by omega : k = 0 ∨ k = 1 ∨ k = 2 ∨ k = 3 ∨ k = 4 ∨ k = 5 ∨ k = 6 ∨ k = 7) with rfl | rfl | rfl | rfl | rfl | rfl | rfl | rfl
          · obtain rfl : j = 7 := by omega
            obtain ⟨d, hd⟩ : ∃ d, UInt8.ofNat (N / 72057594037927936) = d := ⟨_, rfl⟩
            have hdv : (N : Int) / 72057594037927936 = (d.toNat : Int) := by rw [← hd, UInt8.toNat_ofNat']; omega
            have Hd : Hid ((be8 N).take (0 + 1) = (be8 N).take 0 ++ [d]) := by show _ = _; rw [← hd]; rfl
            clear hd
            go_wp2_with (first | (refine wl_sl1 rfl rfl rfl ((HM.out.calm ((Keep.refl _ _).alloc _)).get 1 rfl) rfl (d := d) (heap_alloc_new _ _) HLb3.out ?_; intro v3 w3 h1 k1 g1; have HM : Hid (M (fun _ => False) w w3 [blk ob (.cells Ids.z32 24), slI v3 (bs ++ [0x80] ++ List.replicate (zs n) 0 ++ (be8 N).take 0 ++ [d])]) := Sha.M.appS (HM.out.calm ((Keep.refl _ _).alloc _)) 1 rfl h1 k1 g1; clear h1 k1 g1; simp only [Act.put, List.setIfInBounds_toArray, List.set_cons_zero, List.set_cons_succ]))
            go_roundg (8 - (0 + 1))
            case measure => omega
            case rel => exact ⟨0 + 1, 7 - 1, by omega, by omega, by omega, rfl, by rw [Hd.out, ← List.append_assoc]; exact HM.out⟩
          · obtain rfl : j = 6 := by omega
            obtain ⟨d, hd⟩ : ∃ d, UInt8.ofNat (N / 281474976710656) = d := ⟨_, rfl⟩
            have hdv : (N : Int) / 281474976710656 = (d.toNat : Int) := by rw [← hd, UInt8.toNat_ofNat']; omega
            have Hd : Hid ((be8 N).take (1 + 1) = (be8 N).take 1 ++ [d]) := by show _ = _; rw [← hd]; rfl
            clear hd
            go_wp2_with (first | (refine wl_sl1 rfl rfl rfl ((HM.out.calm ((Keep.refl _ _).alloc _)).get 1 rfl) rfl (d := d) (heap_alloc_new _ _) HLb3.out ?_; intro v3 w3 h1 k1 g1; have HM : Hid (M (fun _ => False) w w3 [blk ob (.cells Ids.z32 24), slI v3 (bs ++ [0x80] ++ List.replicate (zs n) 0 ++ (be8 N).take 1 ++ [d])]) := Sha.M.appS (HM.out.calm ((Keep.refl _ _).alloc _)) 1 rfl h1 k1 g1; clear h1 k1 g1; simp only [Act.put, List.setIfInBounds_toArray, List.set_cons_zero, List.set_cons_succ]))
            go_roundg (8 - (1 + 1))
            case measure => omega
            case rel => exact ⟨1 + 1, 6 - 1, by omega, by omega, by omega, rfl, by rw [Hd.out, ← List.append_assoc]; exact HM.out⟩
          · obtain rfl : j = 5 := by omega
            obtain ⟨d, hd⟩ : ∃ d, UInt8.ofNat (N / 1099511627776) = d := ⟨_, rfl⟩
            have hdv : (N : Int) / 1099511627776 = (d.toNat : Int) := by rw [← hd, UInt8.toNat_ofNat']; omega
            have Hd : Hid ((be8 N).take (2 + 1) = (be8 N).take 2 ++ [d]) := by show _ = _; rw [← hd]; rfl
            clear hd
            go_wp2_with (first | (refine wl_sl1 rfl rfl rfl ((HM.out.calm ((Keep.refl _ _).alloc _)).get 1 rfl) rfl (d := d) (heap_alloc_new _ _) HLb3.out ?_; intro v3 w3 h1 k1 g1; have HM : Hid (M (fun _ => False) w w3 [blk ob (.cells Ids.z32 24), slI v3 (bs ++ [0x80] ++ List.replicate (zs n) 0 ++ (be8 N).take 2 ++ [d])]) := Sha.M.appS (HM.out.calm ((Keep.refl _ _).alloc _)) 1 rfl h1 k1 g1; clear h1 k1 g1; simp only [Act.put, List.setIfInBounds_toArray, List.set_cons_zero, List.set_cons_succ]))
            go_roundg (8 - (2 + 1))
            case measure => omega
            case rel => exact ⟨2 + 1, 5 - 1, by omega, by omega, by omega, rfl, by rw [Hd.out, ← List.append_assoc]; exact HM.out⟩
          · obtain rfl : j = 4 := by omega
            obtain ⟨d, hd⟩ : ∃ d, UInt8.ofNat (N / 4294967296) = d := ⟨_, rfl⟩
            have hdv : (N : Int) / 4294967296 = (d.toNat : Int) := by rw [← hd, UInt8.toNat_ofNat']; omega
            have Hd : Hid ((be8 N).take (3 + 1) = (be8 N).take 3 ++ [d]) := by show _ = _; rw [← hd]; rfl
            clear hd
            go_wp2_with (first | (refine wl_sl1 rfl rfl rfl ((HM.out.calm ((Keep.refl _ _).alloc _)).get 1 rfl) rfl (d := d) (heap_alloc_new _ _) HLb3.out ?_; intro v3 w3 h1 k1 g1; have HM : Hid (M (fun _ => False) w w3 [blk ob (.cells Ids.z32 24), slI v3 (bs ++ [0x80] ++ List.replicate (zs n) 0 ++ (be8 N).take 3 ++ [d])]) := Sha.M.appS (HM.out.calm ((Keep.refl _ _).alloc _)) 1 rfl h1 k1 g1; clear h1 k1 g1; simp only [Act.put, List.setIfInBounds_toArray, List.set_cons_zero, List.set_cons_succ]))
            go_roundg (8 - (3 + 1))
            case measure => omega
            case rel => exact ⟨3 + 1, 4 - 1, by omega, by omega, by omega, rfl, by rw [Hd.out, ← List.append_assoc]; exact HM.out⟩
          · obtain rfl : j = 3 := by omega
            obtain ⟨d, hd⟩ : ∃ d, UInt8.ofNat (N / 16777216) = d := ⟨_, rfl⟩
            have hdv : (N : Int) / 16777216 = (d.toNat : Int) := by rw [← hd, UInt8.toNat_ofNat']; omega
            have Hd : Hid ((be8 N).take (4 + 1) = (be8 N).take 4 ++ [d]) := by show _ = _; rw [← hd]; rfl
            clear hd
            go_wp2_with (first | (refine wl_sl1 rfl rfl rfl ((HM.out.calm ((Keep.refl _ _).alloc _)).get 1 rfl) rfl (d := d) (heap_alloc_new _ _) HLb3.out ?_; intro v3 w3 h1 k1 g1; have HM : Hid (M (fun _ => False) w w3 [blk ob (.cells Ids.z32 24), slI v3 (bs ++ [0x80] ++ List.replicate (zs n) 0 ++ (be8 N).take 4 ++ [d])]) := Sha.M.appS (HM.out.calm ((Keep.refl _ _).alloc _)) 1 rfl h1 k1 g1; clear h1 k1 g1; simp only [Act.put, List.setIfInBounds_toArray, List.set_cons_zero, List.set_cons_succ]))
            go_roundg (8 - (4 + 1))
            case measure => omega
            case rel => exact ⟨4 + 1, 3 - 1, by omega, by omega, by omega, rfl, by rw [Hd.out, ← List.append_assoc]; exact HM.out⟩
          · obtain rfl : j = 2 := by omega
            obtain ⟨d, hd⟩ : ∃ d, UInt8.ofNat (N / 65536) = d := ⟨_, rfl⟩
            have hdv : (N : Int) / 65536 = (d.toNat : Int) := by rw [← hd, UInt8.toNat_ofNat']; omega
            have Hd : Hid ((be8 N).take (5 + 1) = (be8 N).take 5 ++ [d]) := by show _ = _; rw [← hd]; rfl
            clear hd
            go_wp2_with (first | (refine wl_sl1 rfl rfl rfl ((HM.out.calm ((Keep.refl _ _).alloc _)).get 1 rfl) rfl (d := d) (heap_alloc_new _ _) HLb3.out ?_; intro v3 w3 h1 k1 g1; have HM : Hid (M (fun _ => False) w w3 [blk ob (.cells Ids.z32 24), slI v3 (bs ++ [0x80] ++ List.replicate (zs n) 0 ++ (be8 N).take 5 ++ [d])]) := Sha.M.appS (HM.out.calm ((Keep.refl _ _).alloc _)) 1 rfl h1 k1 g1; clear h1 k1 g1; simp only [Act.put, List.setIfInBounds_toArray, List.set_cons_zero, List.set_cons_succ]))
            go_roundg (8 - (5 + 1))
            case measure => omega
            case rel => exact ⟨5 + 1, 2 - 1, by omega, by omega, by omega, rfl, by rw [Hd.out, ← List.append_assoc]; exact HM.out⟩
          · obtain rfl : j = 1 := by omega
            obtain ⟨d, hd⟩ : ∃ d, UInt8.ofNat (N / 256) = d := ⟨_, rfl⟩
            have hdv : (N : Int) / 256 % 256 = (d.toNat : Int) := by rw [← hd, UInt8.toNat_ofNat']; omega
            have Hd : Hid ((be8 N).take (6 + 1) = (be8 N).take 6 ++ [d]) := by show _ = _; rw [← hd]; rfl
            clear hd
            go_wp2_with (first | (refine wl_sl1 rfl rfl rfl ((HM.out.calm ((Keep.refl _ _).alloc _)).get 1 rfl) rfl (d := d) (heap_alloc_new _ _) HLb3.out ?_; intro v3 w3 h1 k1 g1; have HM : Hid (M (fun _ => False) w w3 [blk ob (.cells Ids.z32 24), slI v3 (bs ++ [0x80] ++ List.replicate (zs n) 0 ++ (be8 N).take 6 ++ [d])]) := Sha.M.appS (HM.out.calm ((Keep.refl _ _).alloc _)) 1 rfl h1 k1 g1; clear h1 k1 g1; simp only [Act.put, List.setIfInBounds_toArray, List.set_cons_zero, List.set_cons_succ]))
            go_roundg (8 - (6 + 1))
            case measure => omega
            case rel => exact ⟨6 + 1, 1 - 1, by omega, by omega, by omega, rfl, by rw [Hd.out, ← List.append_assoc]; exact HM.out⟩
          · obtain rfl : j = 0 := by omega
            obtain ⟨d, hd⟩ : ∃ d, UInt8.ofNat (N / 1) = d := ⟨_, rfl⟩
            have hdv : (N : Int) % 256 = (d.toNat : Int) := by rw [← hd, UInt8.toNat_ofNat']; omega
            have Hd : Hid ((be8 N).take (7 + 1) = (be8 N).take 7 ++ [d]) := by show _ = _; rw [← hd]; rfl
            clear hd
            go_wp2_with (first | (refine wl_sl1 rfl rfl rfl ((HM.out.calm ((Keep.refl _ _).alloc _)).get 1 rfl) rfl (d := d) (heap_alloc_new _ _) HLb3.out ?_; intro v3 w3 h1 k1 g1; have HM : Hid (M (fun _ => False) w w3 [blk ob (.cells Ids.z32 24), slI v3 (bs ++ [0x80] ++ List.replicate (zs n) 0 ++ (be8 N).take 7 ++ [d])]) := Sha.M.appS (HM.out.calm ((Keep.refl _ _).alloc _)) 1 rfl h1 k1 g1; clear h1 k1 g1; simp only [Act.put, List.setIfInBounds_toArray, List.set_cons_zero, List.set_cons_succ]))
            go_roundg (8 - (7 + 1))
            case measure => omega
            case rel => exact ⟨7 + 1, 0 - 1, by omega, by omega, by omega, rfl, by rw [Hd.out, ← List.append_assoc]; exact HM.out⟩
        · obtain rfl : k = 8 := by omega
          obtain rfl : j = -1 := by omega
          obtain ⟨D, hD⟩ : ∃ D, bs ++ pad n = D := ⟨_, rfl⟩
          have hD2 : bs ++ [0x80] ++ List.replicate (zs n) 0 ++ (be8 N).take 8 = D := by
            rw [← hD, List.take_of_length_le (by rw [HB8.out]; exact Nat.le_refl _)]
            unfold pad
            rw [HN8.out]
            simp only [List.append_assoc, List.singleton_append, List.cons_append, List.nil_append]
          have hDL : D.length = L2 := by rw [← hD2]; exact hL2
          have hLm : L2 % 64 = 0 := by
            have := pad_len n
            rw [← hDL, ← hD, List.length_append, Hl.out]
            exact this
          have hLb : L2 ≤ 1000000 := by rw [← hL2]; exact HLb3.out
          rw [hD2] at HM
          have HD : Hid (bs ++ pad n = D) := hD
          have HDL : Hid (D.length = L2) := hDL
          clear hD hD2 hL2 hDL hlt hk hkx hj HLb3
          go_wp2_with (first | (go_at_call 92; refine (start_any _).mono ?_; rintro e w5 ⟨rfl, k1⟩; have HM : Hid _ := HM.out.calm k1; clear k1) | (refine St.wl_alloc ty8 rfl rfl rfl ?_; have HM : Hid _ := HM.out.alloc (.cells (us (List.replicate 8 0)) 120) rfl; simp only [Act.put, List.setIfInBounds_toArray, List.set_cons_zero, List.set_cons_succ]) | (refine St.wl_store ty8 rfl rfl rfl rfl rfl (cs := us H0) rfl (us_one _) (HM.out.get 2 rfl) (by simp) ?_; have HM : Hid _ := HM.out.setr 2 rfl (us H0)) | (go_at_call 93; refine (consts_any _).mono ?_; rintro e w6 ⟨rfl, rfl⟩; have HM : Hid _ := HM.out.alloc (.cells (us K) 119) rfl))
          obtain ⟨hb, hhb⟩ : ∃ b, w5.heap.size = b := ⟨_, rfl⟩
          simp only [World.size_alloc, Go.setRow_size] at HM ⊢
          rw [hhb] at HM ⊢
          clear hhb
          go_loopw [8] (fun s8 wq => ∃ j : Nat, 64 * j ≤ L2 ∧ s8 = .int .i64 ((64 * j : Nat) : Int) ∧ M (fun _ => False) w wq [blk ob (.cells Ids.z32 24), slI (.slice (some ⟨g4, 0, none⟩) L2 c4) D, blk hb (.cells (us (toL (fold8 (ofL H0) D j))) 120), blk (hb + 1) (.cells (us K) 119)]) (fun s8 _ => L2 - (intOf s8).toNat)
          case atStart => exact ⟨0, by omega, rfl, HM.out⟩
          case round =>
            obtain ⟨j, hj, rfl, hM⟩ := hrel
            obtain ⟨p, hp⟩ : ∃ p, 64 * j = p := ⟨_, rfl⟩
            rw [hp] at hj ⊢
            have HP : Hid (64 * j = p) := hp
            clear hp
            have HM : Hid _ := hM
            clear hM
            by_cases hlt : p + 64 ≤ L2
            · obtain ⟨g5, c5, cur, fz, e5, hg5, _, hle5, hcm5, hsz5, htk5⟩ := HM.out.get 1 rfl
              simp only [Value.slice.injEq, Option.some.injEq, Addr.mk.injEq, and_true] at e5
              obtain ⟨rfl, -, rfl⟩ := e5
              rw [HDL.out] at hle5 htk5
              obtain ⟨q, hq⟩ : ∃ q, p + 64 = q := ⟨_, rfl⟩
              have hcb : c4 ≤ 9223372036854775807 := by unfold maxLen at hcm5; omega
              have hqw : IntKind.i64.wrap ((p : Int) + 64) = (q : Int) := by rw [IntWalk.i64_in _ (by omega)]; omega
              have hpq : (p : Int) ≤ (q : Int) := by omega
              have hqL : (q : Int) ≤ (L2 : Int) := by omega
              have hqc : (q : Int) ≤ (c4 : Int) := by omega
              have hpn : q - p = 64 := by omega
              have hcp : ¬ c4 = p := by omega
              have HRg : Hid (wr.rangeAt g4 p (((D.drop p).take 64).map bv)) := fun i x hi => by
                have hi2 := (List.getElem?_eq_some_iff.1 hi).1
                rw [List.length_map, List.length_take] at hi2
                rw [List.getElem?_map, List.getElem?_take_of_lt (by omega), List.getElem?_drop] at hi
                rw [cell_of hg5, ← Array.getElem?_toList]
                have hlt2 : p + i < L2 := by omega
                have h5 : (cur.toList.take L2)[p + i]? = cur.toList[p + i]? := List.getElem?_take_of_lt hlt2
                rw [← h5, htk5, List.getElem?_map]
                exact hi
              have HG4 : Hid (g4 < wr.heap.size) := lt_of_block hg5
              have HLn : Hid (((D.drop p).take 64).length = 64) := by
                show _ = _
                rw [List.length_take, List.length_drop, HDL.out]
                omega
              have HSt : Hid (fold8 (ofL H0) D (j + 1) = turn (fold8 (ofL H0) D j) ((D.drop p).take 64)) := by
                show _ = _
                rw [← HP.out]
                exact fold8_step _ _ _ (by rw [HDL.out]; have := HP.out; omega)
              have Hq : Hid (p + 64 = q) := hq
              clear hq htk5 hsz5 hcm5 hle5
              go_wp2
              refine Txt.wp_region_text1 (fun w' => w'.rangeAt hb 0 ((toL (fold8 (ofL H0) D j)).map uv)) [1, 0, 0, 0, 0, 0, 0, 4, 4] (by kernel_rfl) (by kernel_rfl) (HM.out.range 2 rfl) ?_
              simp only [List.dropLast]
              have HM : Hid _ := HM.out.drew
              refine Txt.tl_rowN (n := 8) (ty := 120) (cs := (toL (fold8 (ofL H0) D j)).map uv) (by rfl) (by rfl) (by rfl) (HM.out.range 2 rfl) (by kernel_rfl) (by simp [toL]) ?_
              simp only [Act.put, List.setIfInBounds_toArray, List.set_cons_zero, List.set_cons_succ]
              repeat (first
                | (refine Txt.tl_pure (v := ?_) (by rfl) ?_ ?_; rotate_left; (focus (intro _; go_simp; try with_reducible rfl)); simp only [Act.put, List.setIfInBounds_toArray, List.set_cons_zero, List.set_cons_succ])
                | (refine Txt.tl_skip (by rfl) trivial ?_; simp only [Act.put, List.setIfInBounds_toArray, List.set_cons_zero, List.set_cons_succ])
                | (refine Txt.tl_load (v := ?_) (by rfl) (by rfl) (by rfl) (by kernel_rfl) ?_ ?_; rotate_left; (focus (first | assumption | (go_simp; done) | (go_simp; with_reducible rfl))); simp only [Act.put, List.setIfInBounds_toArray, List.set_cons_zero, List.set_cons_succ])
                | (refine Txt.tl_alloc (by rfl) ?_; go_simp; refine ⟨by (first | exact Txt.Le.alloc_drew _ _ | exact Txt.Le.alloc _ _), ?_⟩))
              refine Txt.tl_call Tryz.func94 (by kernel_rfl) (by kernel_rfl) (by rfl) (by rfl) (by rfl) (block_any _ g4 p 64 (c4 - p) (hb + 1) 64 (fold8 (ofL H0) D j) ((D.drop p).take 64) HRg.out HG4.out HLn.out rfl (HM.out.get 3 rfl)) ?_
              rintro e w6 ⟨rfl, k6⟩
              have HM : Hid _ := HM.out.calm k6
              clear k6
              refine ⟨_, rfl, HM.out.range 2 rfl, ?_⟩
              simp only [Act.put, List.setIfInBounds_toArray, List.set_cons_zero, List.set_cons_succ]
              repeat (first
                | (refine Txt.tl_pure (v := ?_) (by rfl) ?_ ?_; rotate_left; (focus (intro _; go_simp; try with_reducible rfl)); simp only [Act.put, List.setIfInBounds_toArray, List.set_cons_zero, List.set_cons_succ])
                | (refine Txt.tl_skip (by rfl) trivial ?_; simp only [Act.put, List.setIfInBounds_toArray, List.set_cons_zero, List.set_cons_succ])
                | (refine Txt.tl_load (v := ?_) (by rfl) (by rfl) (by rfl) (by kernel_rfl) ?_ ?_; rotate_left; (focus (first | assumption | (go_simp; done) | (go_simp; with_reducible rfl))); simp only [Act.put, List.setIfInBounds_toArray, List.set_cons_zero, List.set_cons_succ])
                | (refine Txt.tl_alloc (by rfl) ?_; go_simp; refine ⟨by (first | exact Txt.Le.alloc_drew _ _ | exact Txt.Le.alloc _ _), ?_⟩))
              refine Txt.tl_nil ?_
              refine Txt.tl_last (by rfl) (by rfl) ?_
              refine St.wp_store ty8 rfl rfl rfl rfl (cs := us (toL (turn (fold8 (ofL H0) D j) ((D.drop p).take 64)))) (by simp [toL]) (us_one _) (HM.out.get 2 rfl) (by simp [toL]) ?_
              have HM : Hid _ := HM.out.setr 2 rfl (us (toL (turn (fold8 (ofL H0) D j) ((D.drop p).take 64))))
              go_wp2
              go_roundw
              case rel =>
                refine ⟨j + 1, by have := HP.out; omega, by have := HP.out; have := Hq.out; simp; omega, ?_⟩
                rw [HSt.out]
                exact HM.out
              case measure => have := Hq.out; simp [intOf]; omega
            · obtain ⟨r, hr⟩ : ∃ r, fold8 (ofL H0) D j = r := ⟨_, rfl⟩
              rw [hr] at HM
              have HFin : Hid ((toL r).flatMap wb = sum bs) := by
                show _ = _
                have e1 : 64 * j = L2 := by have := HP.out; omega
                have e2 : D.length / 64 = j := by rw [HDL.out]; omega
                rw [← hr, ← e2, ← HD.out]
                unfold sum
                rw [List.length_append, Hl.out]
              clear hr
              go_wp2_with (first | (refine St.wl_alloc tyId rfl rfl rfl ?_; have HM : Hid _ := HM.out.alloc (.cells Ids.z32 24) rfl; simp only [Act.put, List.setIfInBounds_toArray, List.set_cons_zero, List.set_cons_succ]))
              obtain ⟨xb, hxb⟩ : ∃ b, wr.heap.size = b := ⟨_, rfl⟩
              rw [hxb] at HM ⊢
              clear hxb
              obtain ⟨F, hF⟩ : ∃ F, (toL r).flatMap wb = F := ⟨_, rfl⟩
              rw [hF] at HFin
              have HL : Hid (F.length = 32) := by show _ = _; rw [← hF]; simp [toL, wb]
              have HAt : Hid (∀ k, k < 32 → F[k]? = some ((((toL r).getD (k / 4) 0) >>> UInt32.ofNat (24 - 8 * (k % 4))).toUInt8)) := fun k h => hF ▸ flat_at r k h
              clear hF
              go_loopw [10] (fun s10 wq => ∃ k : Nat, k ≤ 32 ∧ s10 = .int .i64 k ∧ M (fun _ => False) w wq [blk ob (.cells Ids.z32 24), slI (.slice (some ⟨g4, 0, none⟩) L2 c4) D, blk hb (.cells (us (toL r)) 120), blk (hb + 1) (.cells (us K) 119), blk xb (.cells (os F k) 24)]) (fun s10 _ => 32 - (intOf s10).toNat)
              case atStart => exact ⟨0, by omega, rfl, HM.out⟩
              case round =>
                obtain ⟨k, hk, rfl, hM⟩ := hrel
                have HM : Hid _ := hM
                clear hM
                by_cases hlt : k < 32
                · have hAt := HAt.out k hlt
                  obtain ⟨q, hq⟩ : ∃ q, k / 4 = q := ⟨_, rfl⟩
                  obtain ⟨m, hm⟩ : ∃ m, k % 4 = m := ⟨_, rfl⟩
                  obtain ⟨x, hx⟩ : ∃ x, (toL r).getD q 0 = x := ⟨_, rfl⟩
                  obtain ⟨z, hz⟩ : ∃ z, 24 - 8 * m = z := ⟨_, rfl⟩
                  rw [hq, hm, hx, hz] at hAt
                  obtain ⟨y, hy⟩ : ∃ y, x >>> UInt32.ofNat z = y := ⟨_, rfl⟩
                  obtain ⟨d, hd⟩ : ∃ d, y.toUInt8 = d := ⟨_, rfl⟩
                  rw [hy, hd] at hAt
                  have fsh : ∀ w, Sem.run Tryz.prog (binOp .shr 119 (uv x) (.int .u64 (24 - 8 * ((k : Int) % 4)))) w = .ok (uv y) w := fun w => by
                    rw [show (24 - 8 * ((k : Int) % 4)) = ((z : Nat) : Int) by omega]
                    exact hy ▸ u_shr _ x .u64 z (by omega) w
                  have fcv : ∀ w, Sem.run Tryz.prog (convert 119 5 (uv y)) w = .ok (bv d) w := fun w => hd ▸ u_c8 y w
                  have hcell : wr.cell? ⟨hb, k / 4, none⟩ = some (uv x) := HM.out.cell 2 rfl (k / 4) (by rw [hq]; rw [List.getElem?_toArray, List.getElem?_map, ← hx, List.getD_eq_getElem?_getD, List.getElem?_eq_getElem (by simp [toL]; omega)]; rfl)
                  have HA : Hid (F[k]? = some d) := hAt
                  clear hAt hx hy hd hq hm hz
                  go_wp2_with (first | (refine Sha.wl_storeB (v := d) (p := ⟨xb, k, none⟩) rfl rfl rfl rfl rfl (HM.out.cell 4 rfl k (os_at F HL.out k hlt)) (HM.out.free 4 rfl k) ?_; have HM : Hid _ := HM.out.setc 4 rfl k (bv d)))
                  go_roundw
                  case rel =>
                    refine ⟨k + 1, by omega, rfl, ?_⟩
                    have e := HM.out
                    rw [os_set F HL.out k d HA.out] at e
                    exact e
                  case measure => simp [intOf]; omega
                · obtain rfl : k = 32 := by omega
                  have HO : Hid (os F 32 = (F.map bv).toArray) := by
                    show _ = _
                    unfold os
                    rw [List.take_of_length_le (by rw [HL.out]; exact Nat.le_refl _), Nat.sub_self, List.replicate_zero, List.append_nil]
                  have HM2 := HM.out
                  rw [HO.out] at HM2
                  have HM : Hid _ := HM2
                  clear HM2
                  have L32 : Hid ((F.map bv).length = 32) := by show _ = _; rw [List.length_map, HL.out]
                  go_wp2_with (first | (refine St.wl_load tyId (by rfl) rfl rfl (HM.out.range 4 rfl) L32.out ?_; simp only [Act.put, List.setIfInBounds_toArray, List.set_cons_zero, List.set_cons_succ]) | (refine St.wl_store tyId rfl rfl rfl rfl rfl (cs := (F.map bv).toArray) (by rw [List.size_toArray]; exact L32.out) (ob_one _) (HM.out.get 0 rfl) (by simp [Ids.z32]) ?_; have HM : Hid _ := HM.out.setr 0 rfl (F.map bv).toArray))
                  refine bodyPost_ret (St.res1 tyId rfl _ _ _ ((F.map bv).toArray) (by rw [List.size_toArray]; exact L32.out) rfl (HM.out.get 0 rfl)) rfl ?_
                  rw [HFin.out] at HM ⊢
                  exact ⟨rfl, HM.out.keep⟩
end Sha
end Go.Proofs.YtgllkfolckbdhaaGreatDoor
