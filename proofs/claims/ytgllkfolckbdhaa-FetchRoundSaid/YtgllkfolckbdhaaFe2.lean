/-
  sat.Add; score.Board: in memory, Is, Turn, Score, Peers, Best.
-/
import Derived.Test.YtgllkfolckbdhaaFe1
set_option linter.unusedVariables false
set_option linter.unusedSimpArgs false
namespace Go.Proofs.Ytgllkfolckbdhaa
open Go.RowKit
namespace Fe
open Oct Ids Mp
open Mem (M It blk ids rows)
section
variable {ops : Array Oper} {rest : List Oper} {o : Oper} {a : Act} {w : World} {Q : Exit → Act → World → Prop}
theorem wl_buildL {T : TypeId} {parts : Array (Nat × Operand)} (hgd : o.guard = none) (ho : o.op = .build T parts) (ps : List (Nat × Value)) (hp : (parts.toList.map fun (i, x) => (i, a.eval x)) = ps) {cs : Array Value} (hb : Try.prog.built T ps = some cs) (h : wpList Try.prog ops Q rest (a.put o.dst (.agg cs)) w) : wpList Try.prog ops Q (o :: rest) a w :=
  St.wl_buildV hgd ho (by rw [Array.toList_map, hp]; exact hb) h
theorem ex_buildL {T : TypeId} {parts : Array (Nat × Operand)} (ho : o.op = .build T parts) (ps : List (Nat × Value)) (hp : (parts.toList.map fun (i, x) => (i, a.eval x)) = ps) {cs : Array Value} (hb : Try.prog.built T ps = some cs) : ∀ w, (execOp a.eval o).run Try.prog w = .ok (.value (.agg cs)) w := fun w => by
  have e : (parts.map fun (i, x) => (i, a.eval x)) = ps.toArray := Array.toList_inj.1 (by rw [Array.toList_map]; exact hp)
  have hr : (Instr.build T ps.toArray).run Try.prog w = .ok (.agg cs) w := run_build w T ps.toArray cs (by simpa using hb)
  unfold execOp
  simp only [ho, e, Sem.run_bind, hr, Result.andThen_ok, Sem.run_pure]
end
/-- Two numbers together, within the limits of a score. -/
def clampS (n d : Int) : Int := max (-100) (min (n + d) 100)
theorem clampS_in (n d : Int) : -100 ≤ clampS n d ∧ clampS n d ≤ 100 := by unfold clampS; omega
abbrev I64 (d : Int) : Prop := -9223372036854775808 ≤ d ∧ d ≤ 9223372036854775807
set_option maxRecDepth 100000 in
theorem sum_any (w : World) (n d : Int) (hn : -100 ≤ n ∧ n ≤ 100) (hd : I64 d) :
    Calls Try.prog 41 #[.int .i64 n, .int .i64 d] w fun e w' => ∃ v, e = .returned (.int .i64 v) ∧ w' = w ∧ (v = n + d ∨ (100 < v ∧ 100 < n + d) ∨ (v < -100 ∧ n + d < -100)) := by
  obtain ⟨h1, h2⟩ := hn
  obtain ⟨h3, h4⟩ := hd
  rcases (by omega : 0 < d ∧ 9223372036854775807 - d < n ∨ (0 < d ∧ n ≤ 9223372036854775807 - d) ∨ (d < 0 ∧ n < -9223372036854775808 - d) ∨ (d < 0 ∧ -9223372036854775808 - d ≤ n) ∨ d = 0) with ⟨h, h'⟩ | ⟨h, h'⟩ | ⟨h, h'⟩ | ⟨h, h'⟩ | rfl
  · have e1 : IntKind.i64.wrap (9223372036854775807 - d) = 9223372036854775807 - d := IntWalk.i64_in _ (by omega)
    go_enter Try.func41, Try.ntmps41
    go_wp2
    go_ret
    exact ⟨_, rfl, rfl, .inr (.inl (by omega))⟩
  · have e1 : IntKind.i64.wrap (9223372036854775807 - d) = 9223372036854775807 - d := IntWalk.i64_in _ (by omega)
    have e2 : IntKind.i64.wrap (n + d) = n + d := IntWalk.i64_in _ (by omega)
    go_enter Try.func41, Try.ntmps41
    go_wp2
    go_ret
    exact ⟨_, rfl, rfl, .inl rfl⟩
  · have e1 : IntKind.i64.wrap (-9223372036854775808 - d) = -9223372036854775808 - d := IntWalk.i64_in _ (by omega)
    go_enter Try.func41, Try.ntmps41
    go_wp2
    go_ret
    exact ⟨_, rfl, rfl, .inr (.inr (by omega))⟩
  · have e1 : IntKind.i64.wrap (-9223372036854775808 - d) = -9223372036854775808 - d := IntWalk.i64_in _ (by omega)
    have e2 : IntKind.i64.wrap (n + d) = n + d := IntWalk.i64_in _ (by omega)
    go_enter Try.func41, Try.ntmps41
    go_wp2
    go_ret
    exact ⟨_, rfl, rfl, .inl rfl⟩
  · have e2 : IntKind.i64.wrap n = n := IntWalk.i64_in _ (by omega)
    go_enter Try.func41, Try.ntmps41
    go_wp2
    go_ret
    exact ⟨_, rfl, rfl, .inl (by omega)⟩
set_option maxRecDepth 100000 in
theorem add_any (w : World) (n d : Int) (hn : -100 ≤ n ∧ n ≤ 100) (hd : I64 d) :
    Calls Try.prog 24 #[.int .i64 n, .int .i64 d, .int .i64 (-100), .int .i64 100] w fun e w' => e = .returned (.int .i64 (clampS n d)) ∧ w' = w := by
  have HS : Hid (Calls Try.prog 41 #[.int .i64 n, .int .i64 d] w fun e w' => ∃ v, e = .returned (.int .i64 v) ∧ w' = w ∧ (v = n + d ∨ (100 < v ∧ 100 < n + d) ∨ (v < -100 ∧ n + d < -100))) := sum_any w n d hn hd
  clear hn hd
  go_enter Try.func24, Try.ntmps24
  go_wp2_with (first | (go_at_call 41; refine HS.out.mono ?_; rintro e w1 ⟨v, rfl, rfl, hv⟩; have HV : Hid (v = n + d ∨ (100 < v ∧ 100 < n + d) ∨ (v < -100 ∧ n + d < -100)) := hv; clear hv; go_loud (rcases (show v < -100 ∨ v = -100 ∨ (-100 < v ∧ v < 100) ∨ v = 100 ∨ 100 < v by omega) with hc | hc | ⟨hc, hc2⟩ | hc | hc <;> (try subst hc))))
  all_goals
    go_ret
    refine ⟨?_, rfl⟩
    have := HV.out
    refine congrArg (fun z => Ending.returned (Value.int .i64 z)) ?_
    unfold clampS
    omega
/-- Is it a peer? -/
def isP (sf p : Int) : Bool := decide (0 ≤ p ∧ p < 6 ∧ p ≠ sf)
def bcl (S : List Int) (sf : Int) : List Value := (S.map fun n => Value.int .i64 n) ++ [.int .i64 sf, .bool true]
abbrev bc (S : List Int) (sf : Int) : Obj := .cells (bcl S sf).toArray 60
/-- Scores, as they should be. -/
structure SOk (S : List Int) (sf : Int) : Prop where
  len : S.length = 6
  lim : ∀ n ∈ S, -100 ≤ n ∧ n ≤ 100
  own : 0 ≤ sf ∧ sf < 6
section
variable {w : World} {b : Nat} {S : List Int} {sf : Int}
theorem bcl_self (h : S.length = 6) : (bcl S sf)[6]? = some (.int .i64 sf) := by
  unfold bcl; rw [List.getElem?_append_right (by rw [List.length_map, h]; exact Nat.le_refl _), List.length_map, h]; rfl
theorem bcl_made (h : S.length = 6) : (bcl S sf)[7]? = some (.bool true) := by
  unfold bcl; rw [List.getElem?_append_right (by rw [List.length_map, h]; omega), List.length_map, h]; rfl
theorem bcl_at (h : S.length = 6) {p : Nat} (hp : p < 6) : (bcl S sf)[p]? = some (.int .i64 (S.getD p 0)) := by
  unfold bcl
  rw [List.getElem?_append_left (by rw [List.length_map, h]; exact hp), List.getElem?_map, List.getElem?_eq_getElem (by omega)]
  simp [List.getD, List.getElem?_eq_getElem (show p < S.length by omega)]
theorem bc_cells (hS : SOk S sf) (hb : w.heap[b]? = some (bc S sf)) : w.cell? ⟨b, 6, none⟩ = some (.int .i64 sf) ∧ w.cell? ⟨b, 7, none⟩ = some (.bool true) ∧ ∀ p : Nat, p < 6 → w.cell? ⟨b, p, none⟩ = some (.int .i64 (S.getD p 0)) :=
  ⟨by rw [cell_of hb, List.getElem?_toArray, bcl_self hS.len], by rw [cell_of hb, List.getElem?_toArray, bcl_made hS.len], fun p hp => by rw [cell_of hb, List.getElem?_toArray, bcl_at hS.len hp]⟩
set_option maxRecDepth 100000 in
theorem bnone (w : World) (b : Nat) (S : List Int) (sf : Int) (hS : SOk S sf) (hb : w.heap[b]? = some (bc S sf)) : Calls Try.prog 23 #[.pointer (some ⟨b, 0, none⟩)] w fun e w' => e = .returned (.bool false) ∧ w' = w := by
  obtain ⟨c6, c7, _⟩ := bc_cells hS hb
  clear hb hS
  go_enter Try.func23, Try.ntmps23
  go_wp2
  go_ret
  exact ⟨rfl, rfl⟩
set_option maxRecDepth 100000 in
theorem bis (w : World) (b : Nat) (S : List Int) (sf : Int) (hS : SOk S sf) (hb : w.heap[b]? = some (bc S sf)) (p : Int) : Calls Try.prog 17 #[.pointer (some ⟨b, 0, none⟩), .int .i64 p] w fun e w' => e = .returned (.bool (isP sf p)) ∧ w' = w := by
  obtain ⟨c6, c7, _⟩ := bc_cells hS hb
  have HN : Hid (Calls Try.prog 23 #[.pointer (some ⟨b, 0, none⟩)] w fun e w' => e = .returned (.bool false) ∧ w' = w) := bnone w b S sf hS hb
  clear hb hS
  by_cases h1 : p < 0
  · have e : isP sf p = false := by unfold isP; exact decide_eq_false (by omega)
    rw [e]
    go_enter Try.func17, Try.ntmps17
    go_wp2_with (first | (go_at_call 23; refine HN.out.mono ?_; rintro e w1 ⟨rfl, rfl⟩))
    go_ret
    exact ⟨rfl, rfl⟩
  · by_cases h2 : 6 ≤ p
    · have e : isP sf p = false := by unfold isP; exact decide_eq_false (by omega)
      rw [e]
      go_enter Try.func17, Try.ntmps17
      go_wp2_with (first | (go_at_call 23; refine HN.out.mono ?_; rintro e w1 ⟨rfl, rfl⟩))
      go_ret
      exact ⟨rfl, rfl⟩
    · have h1' : 0 ≤ p := by omega
      have h2' : p < 6 := by omega
      by_cases h3 : p = sf
      · subst h3
        have e : isP p p = false := by unfold isP; exact decide_eq_false (by omega)
        rw [e]
        go_enter Try.func17, Try.ntmps17
        go_wp2_with (first | (go_at_call 23; refine HN.out.mono ?_; rintro e w1 ⟨rfl, rfl⟩))
        go_ret
        exact ⟨rfl, rfl⟩
      · have e : isP sf p = true := by unfold isP; exact decide_eq_true (by omega)
        have h4 : (p != sf) = true := by simpa using h3
        rw [e]
        go_enter Try.func17, Try.ntmps17
        go_wp2_with (first | (go_at_call 23; refine HN.out.mono ?_; rintro e w1 ⟨rfl, rfl⟩))
        go_ret
        exact ⟨rfl, rfl⟩
def turnS (S : List Int) (sf p d : Int) : List Int := if isP sf p then S.set p.toNat (clampS (S.getD p.toNat 0) d) else S
theorem getD_mem {S : List Int} {p : Nat} (h : p < S.length) : S.getD p 0 ∈ S := by
  simp [List.getD, List.getElem?_eq_getElem h]
theorem SOk.turn (h : SOk S sf) (p d : Int) : SOk (turnS S sf p d) sf := by
  unfold turnS
  split
  · refine ⟨by rw [List.length_set]; exact h.len, fun n hn => ?_, h.own⟩
    rcases List.mem_or_eq_of_mem_set hn with e | rfl
    · exact h.lim n e
    · exact clampS_in _ _
  · exact h
theorem set_bcl (h : S.length = 6) {p : Nat} (hp : p < 6) (v : Int) : (bcl S sf).set p (.int .i64 v) = bcl (S.set p v) sf := by
  unfold bcl
  rw [List.set_append_left _ _ (by rw [List.length_map, h]; exact hp), List.map_set]
end
/-- What is tried: the peers' bits. -/
abbrev Tm (m : Nat) : Value := .int .i64 (m : Int)
theorem and_F (m p : Nat) (hm : m < 64) (hp : p < 6) (w : World) : Sem.run Try.prog (binOp .and 3 (Tm m) (.int .i64 ((2 ^ p : Nat) : Int))) w = .ok (.int .i64 (if m.testBit p then ((2 ^ p : Nat) : Int) else 0)) w := by
  have h : ∀ m < 64, ∀ p < 6, IntKind.i64.wrap (((BitVec.ofInt IntKind.i64.bits ((m : Nat) : Int)) &&& (BitVec.ofInt IntKind.i64.bits ((2 ^ p : Nat) : Int))).toNat : Int) = (if m.testBit p then ((2 ^ p : Nat) : Int) else 0) := by decide +kernel
  have e : binOp .and 3 (Tm m) (.int .i64 ((2 ^ p : Nat) : Int)) = (pure (.int .i64 (IntKind.i64.wrap (((BitVec.ofInt IntKind.i64.bits ((m : Nat) : Int)) &&& (BitVec.ofInt IntKind.i64.bits ((2 ^ p : Nat) : Int))).toNat : Int))) : Sem Value) := rfl
  rw [e, h m hm p hp]
  rfl
theorem or_F (m p : Nat) (hm : m < 64) (hp : p < 6) (w : World) : Sem.run Try.prog (binOp .or 3 (Tm m) (.int .i64 ((2 ^ p : Nat) : Int))) w = .ok (Tm (m ||| 2 ^ p)) w := by
  have h : ∀ m < 64, ∀ p < 6, IntKind.i64.wrap (((BitVec.ofInt IntKind.i64.bits ((m : Nat) : Int)) ||| (BitVec.ofInt IntKind.i64.bits ((2 ^ p : Nat) : Int))).toNat : Int) = ((m ||| 2 ^ p : Nat) : Int) := by decide +kernel
  have e : binOp .or 3 (Tm m) (.int .i64 ((2 ^ p : Nat) : Int)) = (pure (.int .i64 (IntKind.i64.wrap (((BitVec.ofInt IntKind.i64.bits ((m : Nat) : Int)) ||| (BitVec.ofInt IntKind.i64.bits ((2 ^ p : Nat) : Int))).toNat : Int))) : Sem Value) := rfl
  rw [e, h m hm p hp]
  rfl
theorem shl_F (p : Nat) (hp : p < 6) (w : World) : Sem.run Try.prog (binOp .shl 3 (.int .i64 1) (.int .i64 (p : Int))) w = .ok (.int .i64 ((2 ^ p : Nat) : Int)) w := by
  have h : ∀ p < 6, IntKind.i64.wrap (1 * 2 ^ (min ((p : Nat) : Int).toNat IntKind.i64.bits)) = ((2 ^ p : Nat) : Int) := by decide +kernel
  have e : Sem.run Try.prog (binOp .shl 3 (.int .i64 1) (.int .i64 (p : Int))) w = .ok (.int .i64 (IntKind.i64.wrap (1 * 2 ^ (min ((p : Nat) : Int).toNat IntKind.i64.bits)))) w := by
    have hlt : ¬ ((p : Int) < 0) := by omega
    have e1 : binOp .shl 3 (.int .i64 1) (.int .i64 (p : Int)) = Op.shift .shl .i64 1 .i64 (p : Int) := rfl
    rw [e1]
    unfold Op.shift
    rw [if_neg hlt]
    rfl
  rw [e, h p hp]
section
variable {ops : Array Oper} {rest : List Oper} {o : Oper} {a : Act} {w : World} {K : Act → World → Prop} {Q : Exit → Act → World → Prop}
theorem run_storeInt {w : World} {p : Addr} {v : Int} {old : Value} (hc : w.cell? p = some old) (hf : w.frozen? p = false) : (Instr.storeAt 3 (.pointer (some p)) (.int .i64 v)).run Try.prog w = .ok () (w.setCell p (.int .i64 v)) := by
  go_simp
theorem run_storeB {w : World} {p : Addr} {v : Bool} {old : Value} (hc : w.cell? p = some old) (hf : w.frozen? p = false) : (Instr.storeAt 4 (.pointer (some p)) (.bool v)).run Try.prog w = .ok () (w.setCell p (.bool v)) := by
  go_simp
theorem run_storeI {w : World} {p : Addr} {ad : Option Addr} {n c : Nat} {old : Value} (hc : w.cell? p = some old) (hf : w.frozen? p = false) : (Instr.storeAt 30 (.pointer (some p)) (.slice ad n c)).run Try.prog w = .ok () (w.setCell p (.slice ad n c)) := by
  go_simp
theorem run_storeF {w : World} {p : Addr} {ad : Option Addr} {n c : Nat} {old : Value} (hc : w.cell? p = some old) (hf : w.frozen? p = false) : (Instr.storeAt 36 (.pointer (some p)) (.slice ad n c)).run Try.prog w = .ok () (w.setCell p (.slice ad n c)) := by
  go_simp
theorem wp_storeInt {x y : Operand} (ho : o.op = .store 3 x y) (hd : o.dst = none) {p : Addr} (hx : a.eval x = .pointer (some p)) {v : Int} (hy : a.eval y = .int .i64 v) {old : Value} (hc : w.cell? p = some old) (hf : w.frozen? p = false)
    (h : K a (w.setCell p (.int .i64 v))) : o.wp Try.prog a w K Q := by
  unfold Oper.wp execOp
  simp only [ho, hx, hy, Sem.run_bind, run_storeInt hc hf, Result.andThen_ok, Sem.run_pure]
  rw [Oper.upon_skip, hd]
  exact h
theorem wp_storeB {x y : Operand} (ho : o.op = .store 4 x y) (hd : o.dst = none) {p : Addr} (hx : a.eval x = .pointer (some p)) {v : Bool} (hy : a.eval y = .bool v) {old : Value} (hc : w.cell? p = some old) (hf : w.frozen? p = false)
    (h : K a (w.setCell p (.bool v))) : o.wp Try.prog a w K Q := by
  unfold Oper.wp execOp
  simp only [ho, hx, hy, Sem.run_bind, run_storeB hc hf, Result.andThen_ok, Sem.run_pure]
  rw [Oper.upon_skip, hd]
  exact h
theorem wp_storeI {x y : Operand} (ho : o.op = .store 30 x y) (hd : o.dst = none) {p : Addr} (hx : a.eval x = .pointer (some p)) {ad : Option Addr} {n c : Nat} (hy : a.eval y = .slice ad n c) {old : Value} (hc : w.cell? p = some old) (hf : w.frozen? p = false)
    (h : K a (w.setCell p (.slice ad n c))) : o.wp Try.prog a w K Q := by
  unfold Oper.wp execOp
  simp only [ho, hx, hy, Sem.run_bind, run_storeI hc hf, Result.andThen_ok, Sem.run_pure]
  rw [Oper.upon_skip, hd]
  exact h
theorem wp_storeF {x y : Operand} (ho : o.op = .store 36 x y) (hd : o.dst = none) {p : Addr} (hx : a.eval x = .pointer (some p)) {ad : Option Addr} {n c : Nat} (hy : a.eval y = .slice ad n c) {old : Value} (hc : w.cell? p = some old) (hf : w.frozen? p = false)
    (h : K a (w.setCell p (.slice ad n c))) : o.wp Try.prog a w K Q := by
  unfold Oper.wp execOp
  simp only [ho, hx, hy, Sem.run_bind, run_storeF hc hf, Result.andThen_ok, Sem.run_pure]
  rw [Oper.upon_skip, hd]
  exact h
end
abbrev bits6 : Array Value := #[.int .i64 1, .int .i64 2, .int .i64 4, .int .i64 8, .int .i64 16, .int .i64 32]
set_option maxRecDepth 100000 in
theorem bit_any (w : World) (p : Nat) (hp : p < 6) : Calls Try.prog 53 #[.int .i64 p] w fun e w' => e = .returned (.int .i64 ((2 ^ p : Nat) : Int)) ∧ w' = w := by
  have hix : ∀ p < 6, ∀ w, (Instr.index 58 (.agg bits6) (.int .i64 ((p : Nat) : Int))).run Try.prog w = .ok (.int .i64 ((2 ^ p : Nat) : Int)) w := by
    intro p hp w
    have hc : p = 0 ∨ p = 1 ∨ p = 2 ∨ p = 3 ∨ p = 4 ∨ p = 5 := by omega
    rcases hc with rfl | rfl | rfl | rfl | rfl | rfl <;> rfl
  have h2 := hix p hp
  go_enter Try.func53, Try.ntmps53
  go_wp2_with (first | (refine wl_buildL rfl rfl [(0, .int .i64 1), (1, .int .i64 2), (2, .int .i64 4), (3, .int .i64 8), (4, .int .i64 16), (5, .int .i64 32)] rfl (cs := bits6) (by kernel_rfl) ?_; simp only [Act.put, List.setIfInBounds_toArray, List.set_cons_zero, List.set_cons_succ]))
  go_ret
  exact ⟨rfl, rfl⟩
set_option maxRecDepth 100000 in
theorem bscore (w : World) (b : Nat) (S : List Int) (sf : Int) (hS : SOk S sf) (hb : w.heap[b]? = some (bc S sf)) (p : Int) : Calls Try.prog 32 #[.pointer (some ⟨b, 0, none⟩), .int .i64 p] w fun e w' => e = .returned (.int .i64 (if isP sf p then S.getD p.toNat 0 else 0)) ∧ w' = w := by
  have HI : Hid (Calls Try.prog 17 #[.pointer (some ⟨b, 0, none⟩), .int .i64 p] w fun e w' => e = .returned (.bool (isP sf p)) ∧ w' = w) := bis w b S sf hS hb p
  obtain ⟨c6, c7, cp⟩ := bc_cells hS hb
  by_cases h : isP sf p = true
  · have hp : 0 ≤ p ∧ p < 6 := by unfold isP at h; have := of_decide_eq_true h; omega
    obtain ⟨q, rfl⟩ : ∃ q : Nat, p = q := ⟨p.toNat, by omega⟩
    have hq : q < 6 := by omega
    have cq := cp q hq
    rw [if_pos h]
    rw [h] at HI
    clear cp hb hS h hp
    go_enter Try.func32, Try.ntmps32
    go_wp2_with (first | (go_at_call 17; refine HI.out.mono ?_; rintro e w1 ⟨rfl, rfl⟩))
    go_ret
    exact ⟨rfl, rfl⟩
  · have h' : isP sf p = false := by simpa using h
    rw [if_neg h]
    rw [h'] at HI
    clear cp hb hS h h'
    go_enter Try.func32, Try.ntmps32
    go_wp2_with (first | (go_at_call 17; refine HI.out.mono ?_; rintro e w1 ⟨rfl, rfl⟩))
    go_ret
    exact ⟨rfl, rfl⟩
set_option maxRecDepth 100000 in
set_option maxHeartbeats 1000000 in
theorem bturn (w : World) (b : Nat) (S : List Int) (sf : Int) (hS : SOk S sf) (hb : w.heap[b]? = some (bc S sf)) (p d : Int) (hd : I64 d) : Calls Try.prog 8 #[.pointer (some ⟨b, 0, none⟩), .int .i64 p, .int .i64 d] w fun e w' => (∃ c, e = .returned (.int .i64 c)) ∧ w'.heap[b]? = some (bc (turnS S sf p d) sf) ∧ Keep (fun k => k = b) w w' := by
  have HN : Hid (Calls Try.prog 23 #[.pointer (some ⟨b, 0, none⟩)] w fun e w' => e = .returned (.bool false) ∧ w' = w) := bnone w b S sf hS hb
  have HI : Hid (Calls Try.prog 17 #[.pointer (some ⟨b, 0, none⟩), .int .i64 p] w fun e w' => e = .returned (.bool (isP sf p)) ∧ w' = w) := bis w b S sf hS hb p
  have HB : Hid (w.heap[b]? = some (bc S sf)) := hb
  have HSo : Hid (SOk S sf) := hS
  obtain ⟨c6, c7, cp⟩ := bc_cells hS hb
  by_cases h : isP sf p = true
  · have hp : 0 ≤ p ∧ p < 6 := by unfold isP at h; have := of_decide_eq_true h; omega
    have HE : Hid (turnS S sf p d = S.set p.toNat (clampS (S.getD p.toNat 0) d)) := by show _ = _; unfold turnS; rw [if_pos h]
    obtain ⟨q, rfl⟩ : ∃ q : Nat, p = q := ⟨p.toNat, by omega⟩
    have hq : q < 6 := by omega
    have cq := cp q hq
    have ha := add_any w.drew (S.getD q 0) d (hS.lim _ (getD_mem (by rw [hS.len]; exact hq))) hd
    obtain ⟨n, hn⟩ : ∃ n, S.getD q 0 = n := ⟨_, rfl⟩
    have Hn : Hid (S.getD q 0 = n) := hn
    rw [hn] at ha cq
    have HA : Hid (Calls Try.prog 24 #[.int .i64 n, .int .i64 d, .int .i64 (-100), .int .i64 100] w.drew fun e w' => e = .returned (.int .i64 (clampS n d)) ∧ w' = w.drew) := ha
    have hq1 : (q : Int) < 6 := by omega
    have hq2 : ¬ ((q : Int) < 0) := by omega
    have hq3 : (0 : Int) ≤ (q : Int) := by omega
    have hfz : w.drew.frozen? ⟨b, q, none⟩ = false := free_of (w := w.drew) hb
    rw [h] at HI
    clear cp hb hS h hp hn ha
    go_enter Try.func8, Try.ntmps8
    go_wp2_with (first | (go_at_call 23; refine HN.out.mono ?_; rintro e w1 ⟨rfl, h1⟩; replace h1 := h1.symm; subst h1) | (go_at_call 17; refine HI.out.mono ?_; rintro e w1 ⟨rfl, h1⟩; replace h1 := h1.symm; subst h1))
    refine Txt.wp_region_text1 (fun w' => w' = w.drew) [0, 0, 0, 0, 0, 0, 0, 1, 0, 4, 0, 0, 0, 4] (by kernel_rfl) (by kernel_rfl) rfl ?_
    (repeat (first | (refine Txt.tl_pure (v := ?_) (by rfl) ?_ ?_; rotate_left; (focus (intro _; go_simp; try with_reducible rfl)); simp only [Act.put, List.setIfInBounds_toArray, List.set_cons_zero, List.set_cons_succ]) | (refine Txt.tl_load (v := ?_) (by rfl) (by rfl) (by rfl) (by kernel_rfl) ?_ ?_; rotate_left; (focus assumption); simp only [Act.put, List.setIfInBounds_toArray, List.set_cons_zero, List.set_cons_succ]) | (refine Txt.tl_skip (by rfl) (by first | trivial | rfl | assumption) ?_; simp only [Act.put, List.setIfInBounds_toArray, List.set_cons_zero, List.set_cons_succ])))
    refine Txt.tl_call Try.func24 (by kernel_rfl) (by kernel_rfl) (by rfl) (by rfl) (by rfl) HA.out ?_
    rintro e w1 ⟨rfl, rfl⟩
    refine ⟨_, rfl, rfl, ?_⟩
    simp only [Act.put, List.setIfInBounds_toArray, List.set_cons_zero, List.set_cons_succ]
    (repeat (first | (refine Txt.tl_pure (v := ?_) (by rfl) ?_ ?_; rotate_left; (focus (intro _; go_simp; try with_reducible rfl)); simp only [Act.put, List.setIfInBounds_toArray, List.set_cons_zero, List.set_cons_succ]) | (refine Txt.tl_load (v := ?_) (by rfl) (by rfl) (by rfl) (by kernel_rfl) ?_ ?_; rotate_left; (focus assumption); simp only [Act.put, List.setIfInBounds_toArray, List.set_cons_zero, List.set_cons_succ]) | (refine Txt.tl_skip (by rfl) (by first | trivial | rfl | assumption) ?_; simp only [Act.put, List.setIfInBounds_toArray, List.set_cons_zero, List.set_cons_succ])))
    refine Txt.tl_nil ?_
    refine Txt.tl_last (by rfl) (by rfl) ?_
    refine wp_storeInt (p := ⟨b, q, none⟩) rfl rfl rfl rfl cq hfz ?_
    go_wp2
    go_ret
    refine ⟨⟨_, rfl⟩, ?_, (Keep.refl _ _).drew.setCell ⟨b, q, none⟩ _ (fun _ => rfl)⟩
    have e := block_set (w := w.drew) (i := q) (show w.drew.heap[b]? = some (bc S sf) from HB.out) (.int .i64 (clampS n d))
    rw [List.setIfInBounds_toArray, set_bcl HSo.out.len hq] at e
    rw [HE.out, Int.toNat_natCast, Hn.out]
    exact e
  · have h' : isP sf p = false := by simpa using h
    have HE : Hid (turnS S sf p d = S) := by show _ = _; unfold turnS; rw [if_neg h]
    rw [h'] at HI
    clear cp hb hS h h'
    go_enter Try.func8, Try.ntmps8
    go_wp2_with (first | (go_at_call 23; refine HN.out.mono ?_; rintro e w1 ⟨rfl, h1⟩; replace h1 := h1.symm; subst h1) | (go_at_call 17; refine HI.out.mono ?_; rintro e w1 ⟨rfl, h1⟩; replace h1 := h1.symm; subst h1))
    go_ret
    exact ⟨⟨_, rfl⟩, by rw [HE.out]; exact HB.out, Keep.refl _ _⟩
/-- The peers. -/
def prs (sf : Int) : List Int := [0, 1, 2, 3, 4, 5].filter fun p => decide (p ≠ sf)
def eN (x : Int) : List Value := [.int .i64 x]
theorem encN : St.Enc 1 eN := ⟨fun _ => rfl, fun x u hu => by obtain rfl := List.mem_singleton.1 hu; rfl⟩
theorem slInt : SlT Try.prog 35 3 (.int .i64 0) 1 8 := SlT.mk' Try.underlying35 (by kernel_rfl) rfl (by omega)
set_option maxRecDepth 100000 in
set_option maxHeartbeats 1000000 in
theorem bpeers (w : World) (b : Nat) (S : List Int) (sf : Int) (hS : SOk S sf) (hb : w.heap[b]? = some (bc S sf)) : Calls Try.prog 52 #[.pointer (some ⟨b, 0, none⟩)] w fun e w' => ∃ v, e = .returned v ∧ M (fun _ => False) w w' [rows 3 1 eN v (prs sf)] := by
  have HI : Hid (∀ w', Keep (fun _ => False) w w' → ∀ p : Int, Calls Try.prog 17 #[.pointer (some ⟨b, 0, none⟩), .int .i64 p] w' fun e w'' => e = .returned (.bool (isP sf p)) ∧ w'' = w') := fun w' k p => bis w' b S sf hS (k.get hb (fun h => h)) p
  have HM : Hid (M (fun _ => False) w w [rows 3 1 eN (.slice none 0 0) []]) := (M.start _ w).nilR 3 1 eN
  clear hb hS
  go_enter Try.func52, Try.ntmps52
  go_wp2
  go_loopw [3, 5] (fun s3 s5 wr => ∃ (k : Nat) (v : Value), k ≤ 6 ∧ s3 = v ∧ s5 = .int .i64 k ∧ M (fun _ => False) w wr [rows 3 1 eN v (([0, 1, 2, 3, 4, 5].take k).filter fun p => decide (p ≠ sf))]) (fun _ s5 _ => 6 - (intOf s5).toNat)
  case atStart => exact ⟨0, _, Nat.zero_le _, rfl, by go_num, HM.out⟩
  case round =>
    clear HM
    obtain ⟨k, v, hk, e1, rfl, hM⟩ := hrel
    replace e1 := e1.symm
    subst e1
    have HM : Hid _ := hM
    clear hM
    by_cases hlt : k < 6
    · have hx : ([0, 1, 2, 3, 4, 5] : List Int)[k]? = some (k : Int) := by
        have hc : k = 0 ∨ k = 1 ∨ k = 2 ∨ k = 3 ∨ k = 4 ∨ k = 5 := by omega
        rcases hc with rfl | rfl | rfl | rfl | rfl | rfl <;> rfl
      have HE : Hid (([0, 1, 2, 3, 4, 5].take (k + 1)).filter (fun p => decide (p ≠ sf)) = ([0, 1, 2, 3, 4, 5].take k).filter (fun p => decide (p ≠ sf)) ++ (if decide ((k : Int) ≠ sf) then [(k : Int)] else [])) := filter_take hx
      have HL : Hid ((([0, 1, 2, 3, 4, 5].take k).filter fun p => decide (p ≠ sf)).length ≤ 6) := by
        show _ ≤ _
        refine Nat.le_trans (List.length_filter_le _ _) ?_
        rw [List.length_take]
        exact Nat.min_le_right _ _
      clear hx
      by_cases hp : (k : Int) = sf
      · have hi : isP sf k = false := by unfold isP; exact decide_eq_false (by omega)
        have HIk : Hid (∀ w', Keep (fun _ => False) w w' → Calls Try.prog 17 #[.pointer (some ⟨b, 0, none⟩), .int .i64 k] w' fun e w'' => e = .returned (.bool false) ∧ w'' = w') := fun w' kk => by rw [← hi]; exact HI.out w' kk k
        have HEE : Hid (([0, 1, 2, 3, 4, 5].take (k + 1)).filter (fun p => decide (p ≠ sf)) = ([0, 1, 2, 3, 4, 5].take k).filter (fun p => decide (p ≠ sf))) := by show _ = _; rw [HE.out]; simp [hp]
        clear hi hp HE
        go_wp2_with (first | (go_at_call 17; refine (HIk.out _ HM.out.keep).mono ?_; rintro e w1 ⟨rfl, h1⟩; replace h1 := h1.symm; subst h1))
        go_roundw
        case rel => exact ⟨k + 1, _, by omega, rfl, by go_num, by rw [HEE.out]; exact HM.out⟩
        case measure => simp [intOf]; omega
      · have hi : isP sf k = true := by unfold isP; exact decide_eq_true (by omega)
        have HIk : Hid (∀ w', Keep (fun _ => False) w w' → Calls Try.prog 17 #[.pointer (some ⟨b, 0, none⟩), .int .i64 k] w' fun e w'' => e = .returned (.bool true) ∧ w'' = w') := fun w' kk => by rw [← hi]; exact HI.out w' kk k
        have HEE : Hid (([0, 1, 2, 3, 4, 5].take (k + 1)).filter (fun p => decide (p ≠ sf)) = ([0, 1, 2, 3, 4, 5].take k).filter (fun p => decide (p ≠ sf)) ++ [(k : Int)]) := by show _ = _; rw [HE.out]; simp [hp]
        clear hi hp HE
        generalize ([0, 1, 2, 3, 4, 5].take k).filter (fun p => decide (p ≠ sf)) = L at HM HL HEE
        go_wp2_with (first | (go_at_call 17; refine (HIk.out _ HM.out.keep).mono ?_; rintro e w1 ⟨rfl, h1⟩; replace h1 := h1.symm; subst h1) | (have HM : Hid _ := HM.out.alloc (.cells #[.int .i64 (k : Int)] 3) rfl; refine St.wl_app1z encN slInt (by decide) rfl rfl rfl (HM.out.get 0 rfl) rfl (k : Int) (show _ = #[Value.int .i64 (k : Int)] from rfl) (HM.out.get 1 rfl) (by have := HL.out; omega) ?_; intro v5 w5 h1 k1 h3; have HM : Hid _ := HM.out.appR 0 rfl h1 k1 h3; clear h1 k1 h3; simp only [Act.put, List.setIfInBounds_toArray, List.set_cons_zero, List.set_cons_succ]))
        go_roundw
        case rel => exact ⟨k + 1, _, by omega, rfl, by go_num, by rw [HEE.out]; exact HM.out.take 1⟩
        case measure => simp [intOf]; omega
    · obtain rfl : k = 6 := by omega
      go_wp2
      go_ret
      exact ⟨_, rfl, HM.out⟩
end Fe
end Go.Proofs.Ytgllkfolckbdhaa
