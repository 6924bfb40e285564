/-
  fetch: one that nobody made; Withheld; the door 'awake'.
-/
import Derived.Test.YtgllkfolckbdhaaFeB
set_option linter.unusedVariables false
set_option linter.unusedSimpArgs false
namespace Go.Proofs.Ytgllkfolckbdhaa
open Go.RowKit
namespace Fe
open Oct Ids Mp
open Mem (M It blk ids rows)
section
variable (w : World) (p : Value) (h : Zf w p)
include h
set_option maxRecDepth 100000 in
theorem zround (a : Option Addr) (n c : Nat) (t : Int) : Calls Try.prog 9 #[p, .slice a n c, .int .i64 t] w fun e w' => e = .returned (.slice none 0 0) ∧ Keep (fun _ => False) w w' := by
  have HN : Hid (Calls Try.prog 22 #[p] w fun e w' => e = .returned (.bool true) ∧ w' = w) := zfnone w p h
  clear h
  go_enter Try.func9, Try.ntmps9
  go_wp2_with (first | (go_at_call 22; refine HN.out.mono ?_; rintro e w1 ⟨rfl, rfl⟩))
  go_ret
  exact ⟨rfl, Keep.refl _ _⟩
set_option maxRecDepth 100000 in
theorem zheld : Calls Try.prog 11 #[p] w fun e w' => e = .returned (.slice none 0 0) ∧ Keep (fun _ => False) w w' := by
  have HN : Hid (Calls Try.prog 22 #[p] w fun e w' => e = .returned (.bool true) ∧ w' = w) := zfnone w p h
  clear h
  go_enter Try.func11, Try.ntmps11
  go_wp2_with (first | (go_at_call 22; refine HN.out.mono ?_; rintro e w1 ⟨rfl, rfl⟩))
  go_ret
  exact ⟨rfl, Keep.refl _ _⟩
set_option maxRecDepth 100000 in
theorem zall : Calls Try.prog 19 #[p] w fun e w' => e = .returned (.slice none 0 0) ∧ Keep (fun _ => False) w w' := by
  have HN : Hid (Calls Try.prog 22 #[p] w fun e w' => e = .returned (.bool true) ∧ w' = w) := zfnone w p h
  clear h
  go_enter Try.func19, Try.ntmps19
  go_wp2_with (first | (go_at_call 22; refine HN.out.mono ?_; rintro e w1 ⟨rfl, rfl⟩))
  go_ret
  exact ⟨rfl, Keep.refl _ _⟩
set_option maxRecDepth 100000 in
theorem zboard : Calls Try.prog 7 #[p] w fun e w' => e = .returned (.pointer none) ∧ Keep (fun _ => False) w w' := by
  have HN : Hid (Calls Try.prog 22 #[p] w fun e w' => e = .returned (.bool true) ∧ w' = w) := zfnone w p h
  clear h
  go_enter Try.func7, Try.ntmps7
  go_wp2_with (first | (go_at_call 22; refine HN.out.mono ?_; rintro e w1 ⟨rfl, rfl⟩))
  go_ret
  exact ⟨rfl, Keep.refl _ _⟩
set_option maxRecDepth 100000 in
theorem zhave (u : Wd) (hu : u.length = 32) (from_ now : Int) : Calls Try.prog 13 #[p, idv u, .int .i64 from_, .int .i64 now] w fun e w' => e = .returned (.bool false) ∧ Keep (fun _ => False) w w' := by
  have HF : Hid (∀ w', Keep (fun _ => False) w w' → Calls Try.prog 33 #[p, idv u] w' fun e w'' => e = .returned (.pointer none) ∧ Keep (fun _ => False) w' w'') := fun w' k => zffind w' p (h.calm k) u
  have HM : Hid (M (fun _ => False) w _ [blk w.heap.size (.cells (u.map bv).toArray 32)]) := (M.start _ w).alloc (.cells (u.map bv).toArray 32) rfl
  have HU : Hid (u.length = 32) := hu
  clear h hu
  go_enter Try.func13, Try.ntmps13
  go_wp2_with (first | ((with_reducible refine at_load 32 ?_); refine Ids.wl_load rfl rfl rfl HU.out (HM.out.range 0 rfl) ?_; simp only [Act.put, List.setIfInBounds_toArray, List.set_cons_zero, List.set_cons_succ]) | (go_at_call 33; refine (HF.out _ HM.out.keep).mono ?_; rintro e w2 ⟨rfl, k2⟩; have HM : Hid _ := HM.out.calm k2; clear k2))
  go_ret
  exact ⟨rfl, HM.out.keep⟩
set_option maxRecDepth 100000 in
theorem zdeny (u : Wd) (hu : u.length = 32) (from_ now : Int) : Calls Try.prog 14 #[p, idv u, .int .i64 from_, .int .i64 now] w fun e w' => e = .returned (.bool false) ∧ Keep (fun _ => False) w w' := by
  have HF : Hid (∀ w', Keep (fun _ => False) w w' → Calls Try.prog 33 #[p, idv u] w' fun e w'' => e = .returned (.pointer none) ∧ Keep (fun _ => False) w' w'') := fun w' k => zffind w' p (h.calm k) u
  have HM : Hid (M (fun _ => False) w _ [blk w.heap.size (.cells (u.map bv).toArray 32)]) := (M.start _ w).alloc (.cells (u.map bv).toArray 32) rfl
  have HU : Hid (u.length = 32) := hu
  clear h hu
  go_enter Try.func14, Try.ntmps14
  go_wp2_with (first | ((with_reducible refine at_load 32 ?_); refine Ids.wl_load rfl rfl rfl HU.out (HM.out.range 0 rfl) ?_; simp only [Act.put, List.setIfInBounds_toArray, List.set_cons_zero, List.set_cons_succ]) | (go_at_call 33; refine (HF.out _ HM.out.keep).mono ?_; rintro e w2 ⟨rfl, k2⟩; have HM : Hid _ := HM.out.calm k2; clear k2))
  go_ret
  exact ⟨rfl, HM.out.keep⟩
set_option maxRecDepth 100000 in
theorem zwrong (from_ now : Int) : Calls Try.prog 15 #[p, .int .i64 from_, .int .i64 now] w fun e w' => e = .returned (.bool false) ∧ Keep (fun _ => False) w w' := by
  have HN : Hid (∀ w', Keep (fun _ => False) w w' → Calls Try.prog 22 #[p] w' fun e w'' => e = .returned (.bool true) ∧ w'' = w') := fun w' k => zfnone w' p (h.calm k)
  have HK : Hid (Keep (fun _ => False) w ((w.alloc (.cells #[.int .i64 from_] 3)).alloc (.cells #[.int .i64 now] 3))) := ((Keep.refl _ _).alloc _).alloc _
  clear h
  go_enter Try.func15, Try.ntmps15
  go_wp2_with (first | (go_at_call 22; refine (HN.out _ HK.out).mono ?_; rintro e w1 ⟨rfl, h1⟩; replace h1 := h1.symm; subst h1))
  go_ret
  exact ⟨rfl, HK.out⟩
set_option maxRecDepth 100000 in
theorem zdone (a : Option Addr) (n c : Nat) (from_ : Int) : Calls Try.prog 16 #[p, .slice a n c, .int .i64 from_] w fun e w' => e = .returned (.bool false) ∧ Keep (fun _ => False) w w' := by
  have HN : Hid (∀ w', Keep (fun _ => False) w w' → Calls Try.prog 22 #[p] w' fun e w'' => e = .returned (.bool true) ∧ w'' = w') := fun w' k => zfnone w' p (h.calm k)
  have HK : Hid (Keep (fun _ => False) w (w.alloc (.cells #[.slice a n c] 30))) := (Keep.refl _ _).alloc _
  clear h
  go_enter Try.func16, Try.ntmps16
  go_wp2_with (first | (go_at_call 22; refine (HN.out _ HK.out).mono ?_; rintro e w1 ⟨rfl, h1⟩; replace h1 := h1.symm; subst h1))
  go_ret
  exact ⟨rfl, HK.out⟩
end
set_option maxRecDepth 100000 in
theorem fheld (w : World) (b b2 : Nat) (lv hv : Value) (L : List Fd) (H : List Wd) (at_ : Int) (S : List Int) (sf : Int) (h : FAt w b b2 lv hv L H at_ S sf) (hH : H.length ≤ 1000) : Calls Try.prog 11 #[.pointer (some ⟨b, 0, none⟩)] w fun e w' => ∃ v, e = .returned v ∧ Ids.New w w' v H := by
  obtain ⟨_, c1, c2, _⟩ := h.cells
  obtain ⟨ha, hc, e2, hat, _⟩ := h.held.at
  obtain ⟨hn, hhn⟩ : ∃ q, H.length = q := ⟨_, rfl⟩
  rw [hhn] at e2 hat hH
  subst e2
  have HC : Hid (Calls Try.prog 31 #[.slice ha hn hc] w fun e w' => ∃ v, e = .returned v ∧ Ids.New w w' v H) := clone_any w ha hn hc H hat (by omega)
  have HN : Hid (Calls Try.prog 22 #[.pointer (some ⟨b, 0, none⟩)] w fun e w' => e = .returned (.bool false) ∧ w' = w) := fnone w b b2 c1
  clear h hat hhn c1
  go_enter Try.func11, Try.ntmps11
  go_wp2_with (first | (go_at_call 22; refine HN.out.mono ?_; rintro e w1 ⟨rfl, h1⟩; replace h1 := h1.symm; subst h1) | (go_at_call 31; refine HC.out.mono ?_; rintro e w2 ⟨v, rfl, n2⟩; have HNw : Hid (Ids.New w w2 v H) := n2; clear n2))
  go_ret
  exact ⟨v, rfl, HNw.out⟩
def U1 : Wd := 1 :: List.replicate 31 0
def F1 : Fd := ⟨U1, rfl, 1, 4, 0, false, false⟩
def F2 : Fd := ⟨U1, rfl, 2, 8, 2, false, false⟩
theorem rd1 : roundR 0 (clk 0) (onceL [U1]) zeros6 [] [] 0 = ⟨zeros6, [], [F1], [F1]⟩ := by rfl
theorem rd1b : (L2of (onceL [U1]) (clk 0) [] 0).2 = 0 := by rfl
theorem rd2 : roundR 0 (clk 4) (onceL [U1]) zeros6 [] [F1] 0 = ⟨[0, -1, 0, 0, 0, 0], [], [F2], [F2]⟩ := by rfl
theorem rd2b : (L2of (onceL [U1]) (clk 4) [F1] 0).2 = 0 := by rfl
theorem iat1 {w : World} {b : Nat} {u : Wd} {t : TypeId} {fr : Nat × Nat} (h : w.heap[b]? = some (.cells (u.map bv).toArray t fr)) (hu : u.length = 32) : At w (some ⟨b, 0, none⟩) 1 [u] := by
  refine ⟨rfl, fun x hx => by rw [List.mem_singleton.1 hx]; exact hu, by unfold maxLen; omega, .inr ⟨b, 0, rfl, lt_of_block h, fun i x hi => ?_⟩⟩
  have hi0 : i = 0 := by have := (List.getElem?_eq_some_iff.1 hi).1; simp at this; omega
  subst hi0
  cases hi
  intro j v hj
  simp only [Nat.zero_mul, Nat.zero_add]
  rw [cell_of h, List.getElem?_toArray]
  exact hj
end Fe
end Go.Proofs.Ytgllkfolckbdhaa
