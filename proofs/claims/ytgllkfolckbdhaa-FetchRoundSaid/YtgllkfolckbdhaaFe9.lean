/-
  fetch: ask, told.
-/
import Derived.Test.YtgllkfolckbdhaaFe8
set_option linter.unusedVariables false
set_option linter.unusedSimpArgs false
namespace Go.Proofs.Ytgllkfolckbdhaa
open Go.RowKit
namespace Fe
open Oct Ids Mp
open Mem (M It blk ids rows)
abbrev xO (x : Fd) : Obj := .cells (fe x).toArray 39
section
variable (x : Fd)
theorem fe_at (j : Nat) (hj : j < 5) : (fe x).toArray[32 + j]? = [Value.int .i64 x.p, .int .i64 x.d, .int .i64 x.t, .bool x.g, .bool x.h][j]? := by
  unfold fe
  rw [List.getElem?_toArray, List.getElem?_append_right (by rw [List.length_map, x.hu]; omega), List.length_map, x.hu, Nat.add_sub_cancel_left]
theorem fe_p : (fe x).toArray[32]? = some (.int .i64 x.p) := fe_at x 0 (by decide)
theorem fe_d : (fe x).toArray[33]? = some (.int .i64 x.d) := fe_at x 1 (by decide)
theorem fe_t : (fe x).toArray[34]? = some (.int .i64 x.t) := fe_at x 2 (by decide)
theorem fe_g : (fe x).toArray[35]? = some (.bool x.g) := fe_at x 3 (by decide)
theorem fe_h : (fe x).toArray[36]? = some (.bool x.h) := fe_at x 4 (by decide)
theorem fe_set (j : Nat) (v : Value) : (fe x).toArray.setIfInBounds (32 + j) v = (x.u.map bv ++ [Value.int .i64 x.p, .int .i64 x.d, .int .i64 x.t, .bool x.g, .bool x.h].set j v).toArray := by
  unfold fe
  rw [List.setIfInBounds_toArray, List.set_append_right _ _ (by rw [List.length_map, x.hu]; omega), List.length_map, x.hu, Nat.add_sub_cancel_left]
theorem fe_sp (v : Int) : (fe x).toArray.setIfInBounds 32 (.int .i64 v) = (fe { x with p := v }).toArray := fe_set x 0 _
theorem fe_sd (v : Int) : (fe x).toArray.setIfInBounds 33 (.int .i64 v) = (fe { x with d := v }).toArray := fe_set x 1 _
theorem fe_st (v : Int) : (fe x).toArray.setIfInBounds 34 (.int .i64 v) = (fe { x with t := v }).toArray := fe_set x 2 _
theorem fe_sg (v : Bool) : (fe x).toArray.setIfInBounds 35 (.bool v) = (fe { x with g := v }).toArray := fe_set x 3 _
theorem fe_sh (v : Bool) : (fe x).toArray.setIfInBounds 36 (.bool v) = (fe { x with h := v }).toArray := fe_set x 4 _
end
def askS (S : List Int) (sf : Int) (x : Fd) : List Int := if x.p = -1 then S else turnS S sf x.p (-1)
def askT (x : Fd) : Nat := if x.p = -1 then x.t.toNat else x.t.toNat ||| 2 ^ x.p.toNat
def askR (S : List Int) (sf : Int) (x : Fd) : Int × Bool := bestS (askS S sf x) sf (askT x)
/-- The fetching behind a question. -/
def askX (S : List Int) (sf : Int) (x : Fd) (now : Int) : Fd := if (askR S sf x).2 then { x with p := (askR S sf x).1, d := now + 4, t := askT x, g := false } else { x with t := askT x }
def askH (S : List Int) (sf : Int) (x : Fd) (H : List Wd) : List Wd := if (askR S sf x).2 then H else IdL.setL (H ++ [x.u])
/-- A fetching, as it should be. -/
structure XOk (x : Fd) : Prop where
  p : x.p = -1 ∨ (0 ≤ x.p ∧ x.p < 6)
  t : 0 ≤ x.t ∧ x.t < 64
theorem wrap_P : ∀ p < 6, IntKind.i64.wrap ((2 : Int) ^ p) = ((2 ^ p : Nat) : Int) := by decide +kernel
theorem or_lt : ∀ m < 64, ∀ p < 6, m ||| 2 ^ p < 64 := by decide +kernel
theorem askT_lt {x : Fd} (h : XOk x) : askT x < 64 := by
  obtain ⟨h1, h2, h3⟩ := h
  unfold askT
  split
  · omega
  · exact or_lt _ (by omega) _ (by omega)
theorem upNew {F : Nat → Prop} {w0 w w' : World} {l : List It} (h : M F w0 w l) (i : Nat) {v v' : Value} {L L' : List Wd} (hi : l[i]? = some (ids v L)) (n : Ids.New w w' v' L') : M F w0 w' (l.set i (ids v' L')) :=
  h.upd i hi n.2.1 (fun _ h => h.elim) (y := ids v' L') n.1 (fun k hk => .inr ⟨n.2.2 k hk, n.1.lt hk⟩)
theorem upB {F : Nat → Prop} {w0 w w' : World} {l : List It} (h : M F w0 w l) (i : Nat) {b : Nat} {o o' : Obj} (hi : l[i]? = some (blk b o)) (h1 : w'.heap[b]? = some o') (k : Keep (fun k => k = b) w w') : M F w0 w' (l.set i (blk b o')) :=
  h.upd i hi k (fun _ h => h) (y := blk b o') h1 (fun k hk => .inl hk)
set_option maxRecDepth 100000 in
set_option maxHeartbeats 8000000 in
theorem fask {F : Nat → Prop} {w0 w : World} {it : List It} {b b2 : Nat} {lv hv : Value} {L : List Fd} {H : List Wd} {at_ : Int} {S : List Int} {sf : Int} {xb : Nat} {x : Fd} (h : M F w0 w (fit b b2 lv hv L H at_ S sf ++ blk xb (xO x) :: it)) (hS : SOk S sf) (hH : H.length ≤ 1000) (hx : XOk x) (now : Int) (hnow : 0 ≤ now ∧ now ≤ 1073741824) :
    Calls Try.prog 29 #[.pointer (some ⟨b, 0, none⟩), .pointer (some ⟨xb, 0, none⟩), .int .i64 now] w fun e w' => e = .returned (.bool (askR S sf x).2) ∧ ∃ hv', M F w0 w' (fit b b2 lv hv' L (askH S sf x H) at_ (askS S sf x) sf ++ blk xb (xO (askX S sf x now)) :: it) := by
  have HM : Hid (M F w0 w (fit b b2 lv hv L H at_ S sf ++ blk xb (xO x) :: it)) := h
  have HSo : Hid (SOk S sf) := hS
  have HHl : Hid (H.length ≤ 1000) := hH
  have HTl : Hid (askT x < 64) := askT_lt hx
  have HU : Hid (x.u.length = 32) := x.hu
  have hw4 : IntKind.i64.wrap (now + 4) = now + 4 := IntWalk.i64_in _ (by omega)
  obtain ⟨hp, ht0, ht1⟩ := hx
  obtain ⟨ha, hc, e2, _⟩ := (show Ids.Own _ hv H from HM.out.get 2 rfl).at
  obtain ⟨hn, hhn⟩ : ∃ q, H.length = q := ⟨_, rfl⟩
  have Hhn : Hid (H.length = hn) := hhn
  rw [hhn] at e2
  subst e2
  have hn5 : hn ≤ 1000 := by rw [← hhn]; exact hH
  clear h hS hH hhn
  by_cases h1 : x.p = -1
  · have HE1 : Hid (askS S sf x = S) := if_pos h1
    have HE2 : Hid (askT x = x.t.toNat) := if_pos h1
    have HX1 : Hid ({ x with t := (askT x : Int) } = x) := by
      show _ = _
      rw [HE2.out]
      have : ((x.t.toNat : Nat) : Int) = x.t := by omega
      rw [this]
    have c1 := HM.out.cell 0 rfl 1 (v := .pointer (some ⟨b2, 0, none⟩)) rfl
    have d32 := HM.out.cell 4 rfl 32 (v := .int .i64 (-1)) (by rw [fe_p, h1])
    clear h1 hp
    go_enter Try.func29, Try.ntmps29
    go_wp2
    have HSo2 : Hid (SOk (askS S sf x) sf) := by rw [HE1.out]; exact HSo.out
    have HM : Hid (M F w0 w (fit b b2 lv (.slice ha hn hc) L H at_ (askS S sf x) sf ++ blk xb (xO { x with t := (askT x : Int) }) :: it)) := by rw [HE1.out, HX1.out]; exact HM.out
    clear c1 d32
    have c1 := HM.out.drew.cell 0 rfl 1 (v := .pointer (some ⟨b2, 0, none⟩)) rfl
    have d34 := HM.out.drew.cell 4 rfl 34 (v := .int .i64 (askT x : Int)) (fe_t _)
    refine Txt.wp_region_text (fun _ => True) [0, 0, 0, 1, 0, 0, 0, 1, 4, 0, 0, 0, 0, 0] (by kernel_rfl) (by kernel_rfl) trivial ?_
    have HM : Hid _ := HM.out.drew
    (repeat (first | (refine Txt.tl_pure (v := ?_) (by rfl) ?_ ?_; rotate_left; (focus (intro _; go_simp; try with_reducible rfl)); simp only [Act.put, List.setIfInBounds_toArray, List.set_cons_zero, List.set_cons_succ]) | (refine Txt.tl_load (v := ?_) (by rfl) (by rfl) (by rfl) (by kernel_rfl) ?_ ?_; rotate_left; (focus assumption); simp only [Act.put, List.setIfInBounds_toArray, List.set_cons_zero, List.set_cons_succ]) | (refine Txt.tl_skip (by rfl) (by first | trivial | rfl | assumption) ?_; simp only [Act.put, List.setIfInBounds_toArray, List.set_cons_zero, List.set_cons_succ])))
    refine Txt.tl_call Try.func45 (by kernel_rfl) (by kernel_rfl) (by rfl) (by rfl) (by rfl) (bbest _ b2 (askS S sf x) sf HSo2.out (HM.out.get 3 rfl) (askT x) HTl.out) ?_
    rintro e w3 ⟨rfl, k3⟩
    have HM : Hid _ := HM.out.calm k3
    clear k3 c1 d34
    refine ⟨_, rfl, trivial, ?_⟩
    obtain ⟨bp, hbp⟩ : ∃ p, (bestS (askS S sf x) sf (askT x)).1 = p := ⟨_, rfl⟩
    obtain ⟨ok, hok⟩ : ∃ p, (bestS (askS S sf x) sf (askT x)).2 = p := ⟨_, rfl⟩
    have Hbp : Hid ((askR S sf x).1 = bp) := hbp
    have Hok : Hid ((askR S sf x).2 = ok) := hok
    rw [hbp, hok]
    clear hbp hok
    simp only [Act.put, List.setIfInBounds_toArray, List.set_cons_zero, List.set_cons_succ]
    (repeat (first | (refine Txt.tl_pure (v := ?_) (by rfl) ?_ ?_; rotate_left; (focus (intro _; go_simp; try with_reducible rfl)); simp only [Act.put, List.setIfInBounds_toArray, List.set_cons_zero, List.set_cons_succ]) | (refine Txt.tl_load (v := ?_) (by rfl) (by rfl) (by rfl) (by kernel_rfl) ?_ ?_; rotate_left; (focus assumption); simp only [Act.put, List.setIfInBounds_toArray, List.set_cons_zero, List.set_cons_succ]) | (refine Txt.tl_skip (by rfl) (by first | trivial | rfl | assumption) ?_; simp only [Act.put, List.setIfInBounds_toArray, List.set_cons_zero, List.set_cons_succ])))
    refine Txt.tl_nil ?_
    cases ok with
    | false =>
      have HEH : Hid (askH S sf x H = IdL.setL (H ++ [x.u])) := by show _ = _; unfold askH; rw [Hok.out]; rfl
      have HEX : Hid (askX S sf x now = { x with t := (askT x : Int) }) := by show _ = _; unfold askX; rw [Hok.out]; rfl
      go_wp2
      refine Txt.wp_region_text1 (fun _ => True) [0, 0, 0, 0, 1, 0, 0, 0, 1, 4, 0, 0, 4] (by kernel_rfl) (by kernel_rfl) trivial ?_
      have HM : Hid _ := HM.out.drew
      have c2 := HM.out.cell 0 rfl 2 (v := .slice ha hn hc) rfl
      have R5 : Hid (World.rangeAt _ xb 0 (x.u.map bv)) := fe_rng (x := { x with t := (askT x : Int) }) (HM.out.range 4 rfl)
      (repeat (first | (refine Txt.tl_pure (v := ?_) (by rfl) ?_ ?_; rotate_left; (focus (intro _; go_simp; try with_reducible rfl)); simp only [Act.put, List.setIfInBounds_toArray, List.set_cons_zero, List.set_cons_succ]) | (refine Txt.tl_load (v := ?_) (by rfl) (by rfl) (by rfl) (by kernel_rfl) ?_ ?_; rotate_left; (focus assumption); simp only [Act.put, List.setIfInBounds_toArray, List.set_cons_zero, List.set_cons_succ]) | (refine Txt.tl_rowN (n := 32) (ty := 32) (by rfl) (by rfl) (by rfl) R5.out (by kernel_rfl) (by rw [List.length_map]; exact HU.out) ?_; simp only [Act.put, List.setIfInBounds_toArray, List.set_cons_zero, List.set_cons_succ])))
      refine Txt.tl_call Try.func46 (by kernel_rfl) (by kernel_rfl) (by rfl) (by rfl) (by rfl) (with_any _ ha hn hc H (own_idat (HM.out.get 2 rfl)) (by omega) x.u HU.out) ?_
      rintro e w4 ⟨v4, rfl, n4⟩
      obtain ⟨a4, n4', c4, e4⟩ : ∃ a n c, v4 = .slice a n c := (by obtain ⟨a, c, e, _⟩ := n4.1.at; exact ⟨_, _, _, e⟩)
      subst e4
      have HM : Hid _ := upNew HM.out 2 rfl n4
      clear n4 c2 R5
      refine ⟨_, rfl, trivial, ?_⟩
      simp only [Act.put, List.setIfInBounds_toArray, List.set_cons_zero, List.set_cons_succ]
      (repeat (first | (refine Txt.tl_pure (v := ?_) (by rfl) ?_ ?_; rotate_left; (focus (intro _; go_simp; try with_reducible rfl)); simp only [Act.put, List.setIfInBounds_toArray, List.set_cons_zero, List.set_cons_succ]) | (refine Txt.tl_load (v := ?_) (by rfl) (by rfl) (by rfl) (by kernel_rfl) ?_ ?_; rotate_left; (focus assumption); simp only [Act.put, List.setIfInBounds_toArray, List.set_cons_zero, List.set_cons_succ]) | (refine Txt.tl_skip (by rfl) (by first | trivial | rfl | assumption) ?_; simp only [Act.put, List.setIfInBounds_toArray, List.set_cons_zero, List.set_cons_succ])))
      refine Txt.tl_nil ?_
      refine Txt.tl_last (by rfl) (by rfl) ?_
      refine wp_storeI rfl rfl rfl rfl (HM.out.cell 0 rfl 2 rfl) (HM.out.free 0 rfl 2) ?_
      have HM : Hid _ := HM.out.setc 0 rfl 2 (.slice a4 n4' c4)
      go_wp2
      go_ret
      rw [HEH.out, HEX.out, Hok.out]
      exact ⟨rfl, _, HM.out⟩
    | true =>
      have HEH : Hid (askH S sf x H = H) := by show _ = _; unfold askH; rw [Hok.out]; rfl
      have HEX : Hid (askX S sf x now = { x with p := bp, d := now + 4, t := (askT x : Int), g := false }) := by show _ = _; unfold askX; rw [Hok.out, Hbp.out]; rfl
      go_wp2_with (first | ((with_reducible refine at_store 3 ?_); first | (refine wpList_plain rfl fun K hK => wp_storeInt (p := ⟨xb, 32, none⟩) rfl rfl rfl rfl (HM.out.cell 4 rfl 32 (fe_p _)) (HM.out.free 4 rfl 32) (hK _ _ ?_); have HM := HM.out.setc 4 rfl 32 (.int .i64 bp); rw [fe_sp] at HM; have HM : Hid _ := HM) | (refine wpList_plain rfl fun K hK => wp_storeInt (p := ⟨xb, 33, none⟩) rfl rfl rfl rfl (HM.out.cell 4 rfl 33 (fe_d _)) (HM.out.free 4 rfl 33) (hK _ _ ?_); have HM := HM.out.setc 4 rfl 33 (.int .i64 (now + 4)); rw [fe_sd] at HM; have HM : Hid _ := HM)) | ((with_reducible refine at_store 4 ?_); refine wpList_plain rfl fun K hK => wp_storeB (p := ⟨xb, 35, none⟩) rfl rfl rfl rfl (HM.out.cell 4 rfl 35 (fe_g _)) (HM.out.free 4 rfl 35) (hK _ _ ?_); have HM := HM.out.setc 4 rfl 35 (.bool false); rw [fe_sg] at HM; have HM : Hid _ := HM))
      go_ret
      rw [HEH.out, HEX.out, Hok.out]
      exact ⟨rfl, _, HM.out⟩
  · obtain ⟨q, hq⟩ : ∃ q : Nat, x.p = q := ⟨x.p.toNat, by omega⟩
    have hq6 : q < 6 := by omega
    have HE1 : Hid (askS S sf x = turnS S sf q (-1)) := by show _ = _; unfold askS; rw [if_neg h1, hq]
    have HE2 : Hid (askT x = x.t.toNat ||| 2 ^ q) := by show _ = _; unfold askT; rw [if_neg h1, hq]; rfl
    have c1 := HM.out.cell 0 rfl 1 (v := .pointer (some ⟨b2, 0, none⟩)) rfl
    have d32 := HM.out.cell 4 rfl 32 (v := .int .i64 (q : Int)) (by rw [fe_p, hq])
    have hqn : ((q : Int) == -1) = false := by simp
    have hqn2 : ((q : Int) != -1) = true := by simp
    obtain ⟨m, hm⟩ : ∃ m : Nat, x.t = m := ⟨x.t.toNat, by omega⟩
    have hm64 : m < 64 := by omega
    have HTm : Hid (askT x = m ||| 2 ^ q) := by show _ = _; rw [HE2.out, hm]; rfl
    clear h1 hp HE2
    go_enter Try.func29, Try.ntmps29
    go_wp2
    refine Txt.wp_region_text (fun _ => True) [0, 0, 0, 1, 0, 0, 0, 1, 4] (by kernel_rfl) (by kernel_rfl) trivial ?_
    have HM : Hid _ := HM.out.drew
    (repeat (first | (refine Txt.tl_pure (v := ?_) (by rfl) ?_ ?_; rotate_left; (focus (intro _; go_simp; try with_reducible rfl)); simp only [Act.put, List.setIfInBounds_toArray, List.set_cons_zero, List.set_cons_succ]) | (refine Txt.tl_load (v := ?_) (by rfl) (by rfl) (by rfl) (by kernel_rfl) ?_ ?_; rotate_left; (focus assumption); simp only [Act.put, List.setIfInBounds_toArray, List.set_cons_zero, List.set_cons_succ]) | (refine Txt.tl_skip (by rfl) (by first | trivial | rfl | assumption) ?_; simp only [Act.put, List.setIfInBounds_toArray, List.set_cons_zero, List.set_cons_succ])))
    refine Txt.tl_call Try.func8 (by kernel_rfl) (by kernel_rfl) (by rfl) (by rfl) (by rfl) (bturn _ b2 S sf HSo.out (HM.out.get 3 rfl) (q : Int) (-1) (by decide)) ?_
    rintro e w2 ⟨⟨cc, rfl⟩, hb2, k2⟩
    have HM : Hid _ := upB HM.out 3 rfl hb2 k2
    clear hb2 k2 c1 d32
    refine ⟨_, rfl, trivial, ?_⟩
    simp only [Act.put, List.setIfInBounds_toArray, List.set_cons_zero, List.set_cons_succ]
    refine Txt.tl_nil ?_
    rw [← HE1.out] at HM
    have HSo2 : Hid (SOk (askS S sf x) sf) := by rw [HE1.out]; exact HSo.out.turn _ _
    have d32 := HM.out.cell 4 rfl 32 (v := .int .i64 (q : Int)) (by rw [fe_p, hq])
    have d34 := HM.out.cell 4 rfl 34 (v := .int .i64 (m : Int)) (by rw [fe_t, hm])
    have hor := or_B m hm64 q hq6
    have hsh := wrap_P q hq6
    obtain ⟨z, hz⟩ : ∃ z, ((2 ^ q : Nat) : Int) = z := ⟨_, rfl⟩
    rw [hz] at hor hsh
    obtain ⟨tt, htt⟩ : ∃ t : Nat, m ||| 2 ^ q = t := ⟨_, rfl⟩
    rw [htt] at hor
    have HTt : Hid (askT x = tt) := by show _ = _; rw [HTm.out, htt]
    clear hz htt
    go_wp2
    refine Txt.wp_region_text1 (fun _ => True) [0, 0, 0, 1, 0, 0, 0, 1, 0, 0, 0, 0, 4] (by kernel_rfl) (by kernel_rfl) trivial ?_
    have HM : Hid _ := HM.out.drew
    have d32' := HM.out.cell 4 rfl 32 (v := .int .i64 (q : Int)) (by rw [fe_p, hq])
    have d34' := HM.out.cell 4 rfl 34 (v := .int .i64 (m : Int)) (by rw [fe_t, hm])
    clear d32 d34
    (repeat (first | (refine Txt.tl_pure (v := ?_) (by rfl) ?_ ?_; rotate_left; (focus (intro _; go_simp; try with_reducible rfl)); simp only [Act.put, List.setIfInBounds_toArray, List.set_cons_zero, List.set_cons_succ]) | (refine Txt.tl_load (v := ?_) (by rfl) (by rfl) (by rfl) (by kernel_rfl) ?_ ?_; rotate_left; (focus assumption); simp only [Act.put, List.setIfInBounds_toArray, List.set_cons_zero, List.set_cons_succ]) | (refine Txt.tl_skip (by rfl) (by first | trivial | rfl | assumption) ?_; simp only [Act.put, List.setIfInBounds_toArray, List.set_cons_zero, List.set_cons_succ])))
    refine Txt.tl_nil ?_
    refine Txt.tl_last (by rfl) (by rfl) ?_
    refine wp_storeInt (p := ⟨xb, 34, none⟩) rfl rfl rfl rfl d34' (HM.out.free 4 rfl 34) ?_
    have HM := HM.out.setc 4 rfl 34 (.int .i64 (tt : Int))
    rw [fe_st] at HM
    rw [← HTt.out] at HM ⊢
    have HM : Hid _ := HM
    clear d32' d34'
    go_wp2
    have c1 := HM.out.drew.cell 0 rfl 1 (v := .pointer (some ⟨b2, 0, none⟩)) rfl
    have d34 := HM.out.drew.cell 4 rfl 34 (v := .int .i64 (askT x : Int)) (fe_t _)
    refine Txt.wp_region_text (fun _ => True) [0, 0, 0, 1, 0, 0, 0, 1, 4, 0, 0, 0, 0, 0] (by kernel_rfl) (by kernel_rfl) trivial ?_
    have HM : Hid _ := HM.out.drew
    (repeat (first | (refine Txt.tl_pure (v := ?_) (by rfl) ?_ ?_; rotate_left; (focus (intro _; go_simp; try with_reducible rfl)); simp only [Act.put, List.setIfInBounds_toArray, List.set_cons_zero, List.set_cons_succ]) | (refine Txt.tl_load (v := ?_) (by rfl) (by rfl) (by rfl) (by kernel_rfl) ?_ ?_; rotate_left; (focus assumption); simp only [Act.put, List.setIfInBounds_toArray, List.set_cons_zero, List.set_cons_succ]) | (refine Txt.tl_skip (by rfl) (by first | trivial | rfl | assumption) ?_; simp only [Act.put, List.setIfInBounds_toArray, List.set_cons_zero, List.set_cons_succ])))
    refine Txt.tl_call Try.func45 (by kernel_rfl) (by kernel_rfl) (by rfl) (by rfl) (by rfl) (bbest _ b2 (askS S sf x) sf HSo2.out (HM.out.get 3 rfl) (askT x) HTl.out) ?_
    rintro e w3 ⟨rfl, k3⟩
    have HM : Hid _ := HM.out.calm k3
    clear k3 c1 d34
    refine ⟨_, rfl, trivial, ?_⟩
    obtain ⟨bp, hbp⟩ : ∃ p, (bestS (askS S sf x) sf (askT x)).1 = p := ⟨_, rfl⟩
    obtain ⟨ok, hok⟩ : ∃ p, (bestS (askS S sf x) sf (askT x)).2 = p := ⟨_, rfl⟩
    have Hbp : Hid ((askR S sf x).1 = bp) := hbp
    have Hok : Hid ((askR S sf x).2 = ok) := hok
    rw [hbp, hok]
    clear hbp hok
    simp only [Act.put, List.setIfInBounds_toArray, List.set_cons_zero, List.set_cons_succ]
    (repeat (first | (refine Txt.tl_pure (v := ?_) (by rfl) ?_ ?_; rotate_left; (focus (intro _; go_simp; try with_reducible rfl)); simp only [Act.put, List.setIfInBounds_toArray, List.set_cons_zero, List.set_cons_succ]) | (refine Txt.tl_load (v := ?_) (by rfl) (by rfl) (by rfl) (by kernel_rfl) ?_ ?_; rotate_left; (focus assumption); simp only [Act.put, List.setIfInBounds_toArray, List.set_cons_zero, List.set_cons_succ]) | (refine Txt.tl_skip (by rfl) (by first | trivial | rfl | assumption) ?_; simp only [Act.put, List.setIfInBounds_toArray, List.set_cons_zero, List.set_cons_succ])))
    refine Txt.tl_nil ?_
    cases ok with
    | false =>
      have HEH : Hid (askH S sf x H = IdL.setL (H ++ [x.u])) := by show _ = _; unfold askH; rw [Hok.out]; rfl
      have HEX : Hid (askX S sf x now = { x with t := (askT x : Int) }) := by show _ = _; unfold askX; rw [Hok.out]; rfl
      go_wp2
      refine Txt.wp_region_text1 (fun _ => True) [0, 0, 0, 0, 1, 0, 0, 0, 1, 4, 0, 0, 4] (by kernel_rfl) (by kernel_rfl) trivial ?_
      have HM : Hid _ := HM.out.drew
      have c2 := HM.out.cell 0 rfl 2 (v := .slice ha hn hc) rfl
      have R5 : Hid (World.rangeAt _ xb 0 (x.u.map bv)) := fe_rng (x := { x with t := (askT x : Int) }) (HM.out.range 4 rfl)
      (repeat (first | (refine Txt.tl_pure (v := ?_) (by rfl) ?_ ?_; rotate_left; (focus (intro _; go_simp; try with_reducible rfl)); simp only [Act.put, List.setIfInBounds_toArray, List.set_cons_zero, List.set_cons_succ]) | (refine Txt.tl_load (v := ?_) (by rfl) (by rfl) (by rfl) (by kernel_rfl) ?_ ?_; rotate_left; (focus assumption); simp only [Act.put, List.setIfInBounds_toArray, List.set_cons_zero, List.set_cons_succ]) | (refine Txt.tl_rowN (n := 32) (ty := 32) (by rfl) (by rfl) (by rfl) R5.out (by kernel_rfl) (by rw [List.length_map]; exact HU.out) ?_; simp only [Act.put, List.setIfInBounds_toArray, List.set_cons_zero, List.set_cons_succ])))
      refine Txt.tl_call Try.func46 (by kernel_rfl) (by kernel_rfl) (by rfl) (by rfl) (by rfl) (with_any _ ha hn hc H (own_idat (HM.out.get 2 rfl)) (by omega) x.u HU.out) ?_
      rintro e w4 ⟨v4, rfl, n4⟩
      obtain ⟨a4, n4', c4, e4⟩ : ∃ a n c, v4 = .slice a n c := (by obtain ⟨a, c, e, _⟩ := n4.1.at; exact ⟨_, _, _, e⟩)
      subst e4
      have HM : Hid _ := upNew HM.out 2 rfl n4
      clear n4 c2 R5
      refine ⟨_, rfl, trivial, ?_⟩
      simp only [Act.put, List.setIfInBounds_toArray, List.set_cons_zero, List.set_cons_succ]
      (repeat (first | (refine Txt.tl_pure (v := ?_) (by rfl) ?_ ?_; rotate_left; (focus (intro _; go_simp; try with_reducible rfl)); simp only [Act.put, List.setIfInBounds_toArray, List.set_cons_zero, List.set_cons_succ]) | (refine Txt.tl_load (v := ?_) (by rfl) (by rfl) (by rfl) (by kernel_rfl) ?_ ?_; rotate_left; (focus assumption); simp only [Act.put, List.setIfInBounds_toArray, List.set_cons_zero, List.set_cons_succ]) | (refine Txt.tl_skip (by rfl) (by first | trivial | rfl | assumption) ?_; simp only [Act.put, List.setIfInBounds_toArray, List.set_cons_zero, List.set_cons_succ])))
      refine Txt.tl_nil ?_
      refine Txt.tl_last (by rfl) (by rfl) ?_
      refine wp_storeI rfl rfl rfl rfl (HM.out.cell 0 rfl 2 rfl) (HM.out.free 0 rfl 2) ?_
      have HM : Hid _ := HM.out.setc 0 rfl 2 (.slice a4 n4' c4)
      go_wp2
      go_ret
      rw [HEH.out, HEX.out, Hok.out]
      exact ⟨rfl, _, HM.out⟩
    | true =>
      have HEH : Hid (askH S sf x H = H) := by show _ = _; unfold askH; rw [Hok.out]; rfl
      have HEX : Hid (askX S sf x now = { x with p := bp, d := now + 4, t := (askT x : Int), g := false }) := by show _ = _; unfold askX; rw [Hok.out, Hbp.out]; rfl
      go_wp2_with (first | ((with_reducible refine at_store 3 ?_); first | (refine wpList_plain rfl fun K hK => wp_storeInt (p := ⟨xb, 32, none⟩) rfl rfl rfl rfl (HM.out.cell 4 rfl 32 (fe_p _)) (HM.out.free 4 rfl 32) (hK _ _ ?_); have HM := HM.out.setc 4 rfl 32 (.int .i64 bp); rw [fe_sp] at HM; have HM : Hid _ := HM) | (refine wpList_plain rfl fun K hK => wp_storeInt (p := ⟨xb, 33, none⟩) rfl rfl rfl rfl (HM.out.cell 4 rfl 33 (fe_d _)) (HM.out.free 4 rfl 33) (hK _ _ ?_); have HM := HM.out.setc 4 rfl 33 (.int .i64 (now + 4)); rw [fe_sd] at HM; have HM : Hid _ := HM)) | ((with_reducible refine at_store 4 ?_); refine wpList_plain rfl fun K hK => wp_storeB (p := ⟨xb, 35, none⟩) rfl rfl rfl rfl (HM.out.cell 4 rfl 35 (fe_g _)) (HM.out.free 4 rfl 35) (hK _ _ ?_); have HM := HM.out.setc 4 rfl 35 (.bool false); rw [fe_sg] at HM; have HM : Hid _ := HM))
      go_ret
      rw [HEH.out, HEX.out, Hok.out]
      exact ⟨rfl, _, HM.out⟩
def toldX (H : List Wd) (x : Fd) : Fd := { x with h := decide (x.u ∈ H) }
set_option maxRecDepth 100000 in
set_option maxHeartbeats 2000000 in
theorem ftold {w : World} {b b2 : Nat} {lv hv : Value} {L : List Fd} {H : List Wd} {at_ : Int} {S : List Int} {sf : Int} (h : FAt w b b2 lv hv L H at_ S sf) (hH : H.length ≤ 1000) (x : Fd) :
    Calls Try.prog 30 #[.pointer (some ⟨b, 0, none⟩), .agg (fe x).toArray] w fun e w' => e = .returned (.agg (fe (toldX H x)).toArray) ∧ Keep (fun _ => False) w w' := by
  obtain ⟨_, _, c2, _⟩ := h.cells
  have HD : Hid (Ids.Own w hv H) := h.held
  obtain ⟨ha, hc, e2, hat, _⟩ := h.held.at
  obtain ⟨hn, hhn⟩ : ∃ q, H.length = q := ⟨_, rfl⟩
  rw [hhn] at e2 hat
  subst e2
  have HA : Hid (At w ha hn H) := hat
  have HU : Hid (x.u.length = 32) := x.hu
  have hn5 : hn ≤ 1000 := by rw [← hhn]; exact hH
  have HM : Hid (M (fun _ => False) w _ [blk w.heap.size (xO x), blk (w.heap.size + 1) (.cells fz 39)]) := ((M.start _ w).alloc (xO x) rfl).alloc (.cells fz 39) (by simp)
  have HE : Hid (toldX H x = { x with h := decide (x.u ∈ H) }) := rfl
  have C2 : Hid (w.cell? ⟨b, 2, none⟩ = some (.slice ha hn hc)) := c2
  clear h hhn hat c2
  obtain ⟨r, hr⟩ : ∃ r, decide (x.u ∈ H) = r := ⟨_, rfl⟩
  have Hr : Hid (decide (x.u ∈ H) = r) := hr
  clear hr
  go_enter Try.func30, Try.ntmps30
  go_wp2_with (first | ((with_reducible refine at_alloc 39 ?_); refine St.wl_alloc tyF rfl rfl (by (try simp only [World.size_alloc]); rfl) ?_; simp only [Act.put, List.setIfInBounds_toArray, List.set_cons_zero, List.set_cons_succ]))
  refine Txt.wp_region_text1 (fun _ => True) [0, 0, 0, 1, 0, 1, 4, 0, 4] (by kernel_rfl) (by kernel_rfl) trivial ?_
  have HM : Hid _ := HM.out.drew
  have c2 := kcell HM.out.keep C2.out
  have R5 : Hid (World.rangeAt _ w.heap.size 0 (x.u.map bv)) := fe_rng (HM.out.range 0 rfl)
  (repeat (first | (refine Txt.tl_pure (v := ?_) (by rfl) ?_ ?_; rotate_left; (focus (intro _; go_simp; try with_reducible rfl)); simp only [Act.put, List.setIfInBounds_toArray, List.set_cons_zero, List.set_cons_succ]) | (refine Txt.tl_load (v := ?_) (by rfl) (by rfl) (by rfl) (by kernel_rfl) ?_ ?_; rotate_left; (focus assumption); simp only [Act.put, List.setIfInBounds_toArray, List.set_cons_zero, List.set_cons_succ]) | (refine Txt.tl_rowN (n := 32) (ty := 32) (by rfl) (by rfl) (by rfl) R5.out (by kernel_rfl) (by rw [List.length_map]; exact HU.out) ?_; simp only [Act.put, List.setIfInBounds_toArray, List.set_cons_zero, List.set_cons_succ])))
  refine Txt.tl_call Try.func36 (by kernel_rfl) (by kernel_rfl) (by rfl) (by rfl) (by rfl) (has_any _ ha hn hc H (HA.out.calm HM.out.keep) (by omega) x.u HU.out) ?_
  rintro e w4 ⟨rfl, k4⟩
  rw [Hr.out]
  have HM : Hid _ := HM.out.calm k4
  clear k4 c2 R5
  refine ⟨_, rfl, trivial, ?_⟩
  simp only [Act.put, List.setIfInBounds_toArray, List.set_cons_zero, List.set_cons_succ]
  (repeat (first | (refine Txt.tl_pure (v := ?_) (by rfl) ?_ ?_; rotate_left; (focus (intro _; go_simp; try with_reducible rfl)); simp only [Act.put, List.setIfInBounds_toArray, List.set_cons_zero, List.set_cons_succ]) | (refine Txt.tl_load (v := ?_) (by rfl) (by rfl) (by rfl) (by kernel_rfl) ?_ ?_; rotate_left; (focus assumption); simp only [Act.put, List.setIfInBounds_toArray, List.set_cons_zero, List.set_cons_succ]) | (refine Txt.tl_skip (by rfl) (by first | trivial | rfl | assumption) ?_; simp only [Act.put, List.setIfInBounds_toArray, List.set_cons_zero, List.set_cons_succ])))
  refine Txt.tl_nil ?_
  refine Txt.tl_last (by rfl) (by rfl) ?_
  refine wp_storeB (p := ⟨w.heap.size, 36, none⟩) rfl rfl rfl rfl (HM.out.cell 0 rfl 36 (fe_h x)) (HM.out.free 0 rfl 36) ?_
  have HM := HM.out.setc 0 rfl 36 (.bool r)
  rw [fe_sh] at HM
  have HM : Hid _ := HM
  go_wp2_with (first | ((with_reducible refine at_load 39 ?_); refine St.wl_load tyF rfl rfl rfl (HM.out.range 0 rfl) (fe_len _) ?_; simp only [Act.put, List.setIfInBounds_toArray, List.set_cons_zero, List.set_cons_succ])     | ((with_reducible refine at_store 39 ?_); refine St.wl_store tyF rfl rfl rfl rfl rfl (cs := (fe { x with h := r }).toArray) (fe_sz _) (F_enc.all _) (HM.out.get 1 rfl) rfl ?_; have HM : Hid _ := HM.out.setr 1 rfl (fe { x with h := r }).toArray))
  refine bodyPost_ret (St.res1 tyF rfl _ _ _ (fe { x with h := r }).toArray (fe_sz _) rfl (HM.out.get 1 rfl)) rfl ?_
  rw [HE.out, Hr.out]
  exact ⟨rfl, HM.out.keep⟩
end Fe
end Go.Proofs.Ytgllkfolckbdhaa
