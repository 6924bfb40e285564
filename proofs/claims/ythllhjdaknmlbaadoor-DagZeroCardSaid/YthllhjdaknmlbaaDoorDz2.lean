/-
  dag: put into a row that has nobody; copied; verdict of a header without parents.
-/
import Derived.Test.YthllhjdaknmlbaaDoorDz1
import Derived.Test.YthllhjdaknmlbaaDoorGSr
set_option linter.unusedVariables false
set_option linter.unusedSimpArgs false
namespace Go.Proofs.YthllhjdaknmlbaaDoor
open Go.RowKit
namespace Dz
open Oct Ids Mp Gn Hd
open Mem (M It blk ids rows)
set_option maxRecDepth 100000 in
set_option maxHeartbeats 1000000 in
theorem bsf0 (w : World) (u : Wd) (fv : Value) : Calls Tryd.prog 30 #[.slice none 0 0, idv u, fv] w fun e w' => e = .returned (.tuple #[.int .i64 0, .bool false]) ∧ Keep (fun _ => False) w w' := by
  have HM : Hid (M (fun _ => False) w _ [blk w.heap.size (.cells (u.map bv).toArray 24)]) := (M.start _ w).alloc (.cells (u.map bv).toArray 24) rfl
  go_enter Tryd.func30, Tryd.ntmps30
  go_wp2
  go_loopw [9, 10] (fun s9 s10 wr => s9 = .int .i64 0 ∧ s10 = .int .i64 0 ∧ Keep (fun _ => False) w wr) (fun _ _ _ => 0)
  case atStart => exact ⟨rfl, rfl, HM.out.keep⟩
  case round =>
    obtain ⟨rfl, rfl, hk⟩ := hrel
    have HK : Hid _ := hk
    clear hk
    go_wp2
    refine Txt.wp_region_text (fun _ => True) [0, 0, 0, 0, 0, 0, 0, 0, 0, 1, 1, 4, 0, 0, 0, 0] (by kernel_rfl) (by kernel_rfl) trivial ?_
    repeat (first
      | (refine Txt.tl_pure (v := ?_) (by rfl) ?_ ?_; rotate_left; (focus (intro _; go_simp; try with_reducible rfl)); simp only [Act.put, List.setIfInBounds_toArray, List.set_cons_zero, List.set_cons_succ])
      | (refine Txt.tl_skip (by rfl) trivial ?_; simp only [Act.put, List.setIfInBounds_toArray, List.set_cons_zero, List.set_cons_succ])
      | (refine Txt.tl_load (v := ?_) (by rfl) (by rfl) (by rfl) (by kernel_rfl) ?_ ?_; rotate_left; (focus (first | assumption | (go_simp; done) | (go_simp; with_reducible rfl))); simp only [Act.put, List.setIfInBounds_toArray, List.set_cons_zero, List.set_cons_succ])
      | (refine Txt.tl_alloc (by rfl) ?_; go_simp; refine ⟨by (first | exact Txt.Le.alloc_drew _ _ | exact Txt.Le.alloc _ _), ?_⟩))
    refine Txt.tl_nil ?_
    go_wp2
    refine bodyPost_ret (results_tmp2 rfl _ _ _) rfl ?_
    exact ⟨rfl, HK.out.drew⟩
set_option maxRecDepth 100000 in
theorem ins0 (w : World) (g : Nat) (u : Wd) (hu : u.length = 32) {fr : Nat × Nat} (h : w.heap[g]? = some (.cells (u.map bv).toArray 24 fr)) : Calls Tryd.prog 31 #[.slice none 0 0, .int .i64 0, .slice (some ⟨g, 0, none⟩) 1 1] w fun e w' => ∃ v, e = .returned v ∧ New w w' v [u] := by
  have hat : At w (some ⟨g, 0, none⟩) 1 [u] := by
    refine ⟨rfl, fun x hx => by rw [List.mem_singleton.1 hx]; exact hu, by unfold maxLen; omega, .inr ⟨g, 0, rfl, lt_of_block h, fun i x hi => ?_⟩⟩
    cases i with
    | zero =>
      simp only [List.getElem?_cons_zero, Option.some.injEq] at hi
      subst hi
      intro j v hj
      rw [cell_of h, List.getElem?_toArray]
      simpa using hj
    | succ i => simp at hi
  have HA : Hid _ := hat
  have H0 : Hid (Ids.Own w (.slice none 0 0) []) := Ids.Own.nil w
  clear hat h
  go_enter Tryd.func31, Tryd.ntmps31
  go_wp2_with (first | (refine wl_appR rfl rfl rfl H0.out rfl HA.out (by simp) ?_; intro v' w1 h1 h2 h3; have H1 : Hid _ := h1; have K1 : Hid _ := h2; have A1 : Hid _ := h3; clear h1 h2 h3; simp only [Act.put, List.setIfInBounds_toArray, List.set_cons_zero, List.set_cons_succ]))
  go_ret
  refine ⟨_, rfl, H1.out, (Keep.refl _ _).trans' K1.out (fun _ _ h => h) (fun k _ e => by cases e), fun k hk => ?_⟩
  rcases A1.out with e | e
  · have hk' : v'.ownBlock = some k := hk
    rw [e] at hk'
    cases hk'
  · have e' := Option.some.inj (e.symm.trans hk)
    omega
set_option maxRecDepth 100000 in
theorem dput (w : World) (p : Value) (u : Wd) (hu : u.length = 32) : Calls Tryd.prog 20 #[p, .slice none 0 0, idv u] w fun e w' => ∃ v, e = .returned v ∧ New w w' v [u] := by
  have HU : Hid _ := hu
  have HM : Hid (M (fun _ => False) w _ [blk w.heap.size (.cells (u.map bv).toArray 24)]) := (M.start _ w).alloc (.cells (u.map bv).toArray 24) rfl
  clear hu
  go_enter Tryd.func20, Tryd.ntmps20
  go_wp2_with (first | ((with_reducible refine at_load 24 ?_); refine Ids.wl_load rfl rfl rfl HU.out (HM.out.range 0 rfl) ?_; simp only [Act.put, List.setIfInBounds_toArray, List.set_cons_zero, List.set_cons_succ]) | (go_at_call 30; refine (bsf0 _ u _).mono ?_; rintro e w1 ⟨rfl, k1⟩; have HM : Hid _ := HM.out.calm k1; clear k1) | (refine Ids.wl_build rfl rfl HU.out rfl ?_; have HM : Hid _ := HM.out.alloc (.cells (u.map bv).toArray 24) rfl; simp only [Act.put, List.setIfInBounds_toArray, List.set_cons_zero, List.set_cons_succ]) | (go_at_call 31; refine (ins0 _ _ u HU.out (HM.out.get 1 rfl)).mono ?_; rintro e w2 ⟨v2, rfl, n2⟩; have N2 : Hid _ := n2; clear n2))
  go_ret
  exact ⟨_, rfl, N2.out.1, HM.out.keep.trans N2.out.2.1, fun k hk => Nat.le_trans HM.out.keep.size (N2.out.2.2 k hk)⟩
section
variable (G : Int) (T : ByteArray) (A Q Z : Int) (m : List UInt8)
/-- A header without parents. -/
abbrev h0 : Array Value := (hd (.slice none 0 0) G T A Q Z m).toArray
set_option maxRecDepth 100000 in
theorem dcopied (w : World) (hm : m.length = 32) : Calls Tryd.prog 19 #[.agg (h0 G T A Q Z m)] w fun e w' => ∃ a c, e = .returned (.agg (hd (.slice a 0 c) G T A Q Z m).toArray) ∧ Keep (fun _ => False) w w' := by
  have Hr : Hid (m.length = 32) := hm
  have HM : Hid (M (fun _ => False) w _ [blk w.heap.size (.cells (h0 G T A Q Z m) 26), blk (w.heap.size + 1) (.cells hz0 26)]) := ((M.start _ w).alloc (.cells (h0 G T A Q Z m) 26) rfl).alloc (.cells hz0 26) (by simp)
  have c0 := HM.out.cell 0 rfl 0 (v := .slice none 0 0) rfl
  generalize hX : h0 G T A Q Z m = X at HM c0 ⊢
  have HX : Hid (h0 G T A Q Z m = X) := hX
  clear hX hm
  go_enter Tryd.func19, Tryd.ntmps19
  go_wp2_with (first | (refine St.wl_alloc tyH rfl rfl (by (try simp only [World.size_alloc]); rfl) ?_; simp only [Act.put, List.setIfInBounds_toArray, List.set_cons_zero, List.set_cons_succ]) | (go_at_call 25; refine (clone_any _ none 0 0 [] (nil_at _) (by omega)).mono ?_; rintro e w1 ⟨v1, rfl, n1⟩; obtain ⟨a1, q1, e1, _⟩ := n1.1.at; have HM : Hid _ := HM.out.calm n1.2.1; subst e1; clear n1 c0) | ((with_reducible refine at_store 22 ?_); refine wpList_plain rfl fun K hK => wp_storeI rfl rfl rfl rfl (HM.out.cell 0 rfl 0 (v := .slice none 0 0) (by rw [← HX.out]; rfl)) (HM.out.free 0 rfl 0) (hK _ _ ?_); have HM : Hid _ := HM.out.setc 0 rfl 0 (.slice a1 0 q1); rw [show X.setIfInBounds 0 (.slice a1 0 q1) = (hd (.slice a1 0 q1) G T A Q Z m).toArray by rw [← HX.out]; rfl] at HM) | ((with_reducible refine at_load 26 ?_); refine St.wl_load tyH (by rfl) rfl rfl (HM.out.range 0 rfl) (hd_len _ _ _ _ _ _ _ Hr.out) ?_; simp only [Act.put, List.setIfInBounds_toArray, List.set_cons_zero, List.set_cons_succ]) | ((with_reducible refine at_store 26 ?_); refine St.wl_store tyH rfl rfl rfl rfl rfl (cs := (hd (.slice a1 0 q1) G T A Q Z m).toArray) (by rw [List.size_toArray]; exact hd_len _ _ _ _ _ _ _ Hr.out) (hd_one _ _ _ _ _ _ _ _ _) (HM.out.get 1 rfl) rfl ?_; have HM : Hid _ := HM.out.setr 1 rfl (hd (.slice a1 0 q1) G T A Q Z m).toArray))
  refine bodyPost_ret (St.res1 tyH rfl _ _ _ _ (by rw [List.size_toArray]; exact hd_len _ _ _ _ _ _ _ Hr.out) rfl (HM.out.get 1 rfl)) rfl ?_
  exact ⟨a1, q1, rfl, HM.out.keep⟩
end
end Dz
end Go.Proofs.YthllhjdaknmlbaaDoor
