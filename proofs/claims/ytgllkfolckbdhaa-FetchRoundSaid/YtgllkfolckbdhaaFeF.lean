/-
  fetch: Wrong, Done.
-/
import Derived.Test.YtgllkfolckbdhaaFeE
set_option linter.unusedVariables false
set_option linter.unusedSimpArgs false
namespace Go.Proofs.Ytgllkfolckbdhaa
open Go.RowKit
namespace Fe
open Oct Ids Mp
open Mem (M It blk ids rows)
abbrev bxI (v : Int) : Obj := .cells #[.int .i64 v] 3
abbrev bxB (v : Bool) : Obj := .cells #[.bool v] 4
structure DuePost (F : Nat → Prop) (w0 : World) (b b2 g q c : Nat) (hv : Value) (L : List Fd) (H : List Wd) (at_ : Int) (S : List Int) (sf : Int) (bf bn bh : Nat) (fr now : Int) (e : Ending) (w' : World) : Prop where
  ex : e = .returned (.tuple #[]) ∧ ∃ L' t', Chg L L' ∧ M F w0 w' (fit b b2 (.slice (some ⟨g, 0, none⟩) q c) hv L' H at_ S sf ++ [blk bf (bxI fr), blk bn (bxI now), blk bh (bxB t')])
theorem due_eg : ∀ args w, (callFunc 34 args).run Try.prog w = .ok (.enter 34 args) w := enters_of Try.func34 (by kernel_rfl) rfl
set_option maxRecDepth 100000 in
set_option maxHeartbeats 4000000 in
theorem fdue {F : Nat → Prop} {w0 w : World} {b b2 g q c : Nat} {hv : Value} {L : List Fd} {H : List Wd} {at_ : Int} {S : List Int} {sf : Int} {bf bn bh : Nat} {fr now : Int} {t : Bool} (h : M F w0 w (fit b b2 (.slice (some ⟨g, 0, none⟩) q c) hv L H at_ S sf ++ [blk bf (bxI fr), blk bn (bxI now), blk bh (bxB t)])) (i : Nat) {x : Fd} (hx : L[i]? = some x) :
    Calls Try.prog 34 #[.pointer (some ⟨g, i * 37, none⟩), .pointer (some ⟨bf, 0, none⟩), .pointer (some ⟨bn, 0, none⟩), .pointer (some ⟨bh, 0, none⟩)] w (DuePost F w0 b b2 g q c hv L H at_ S sf bf bn bh fr now) := by
  have HM : Hid (M F w0 w (fit b b2 (.slice (some ⟨g, 0, none⟩) q c) hv L H at_ S sf ++ [blk bf (bxI fr), blk bn (bxI now), blk bh (bxB t)])) := h
  have Hx : Hid (L[i]? = some x) := hx
  have d32 : w.drew.cell? ⟨g, i * 37 + 32, none⟩ = some (.int .i64 x.p) := row_cell (h.drew.get 1 rfl) hx (fe_p x)
  have d35 : w.drew.cell? ⟨g, i * 37 + 35, none⟩ = some (.bool x.g) := row_cell (h.drew.get 1 rfl) hx (fe_g x)
  have c4 : w.drew.cell? ⟨bf, 0, none⟩ = some (.int .i64 fr) := h.drew.cell 4 rfl 0 rfl
  have HCk : Hid (∀ w, Calls Try.prog 26 #[.int .i64 now] w fun e w' => e = .returned (.int .i64 (clk now)) ∧ w' = w) := fun w => clock_any w now
  generalize clk now = ck at HCk
  obtain ⟨xp, hxp⟩ : ∃ p, x.p = p := ⟨_, rfl⟩
  obtain ⟨xg, hxg⟩ : ∃ p, x.g = p := ⟨_, rfl⟩
  rw [hxp] at d32
  rw [hxg] at d35
  clear h hx hxp hxg
  by_cases hpf : xp = fr
  · subst hpf
    have hbe : (xp == xp) = true := by simp
    cases xg with
    | true =>
      go_enter Try.func34, Try.ntmps34
      go_wp2
      refine Txt.wp_region_text (fun _ => True) [0, 0, 0, 1, 1, 0, 0, 0, 0, 0, 1, 0] (by kernel_rfl) (by kernel_rfl) trivial ?_
      (repeat (first | (refine Txt.tl_pure (v := ?_) (by rfl) ?_ ?_; rotate_left; (focus (intro _; go_simp; try with_reducible rfl)); simp only [Act.put, List.setIfInBounds_toArray, List.set_cons_zero, List.set_cons_succ]) | (refine Txt.tl_load (v := ?_) (by rfl) (by rfl) (by rfl) (by kernel_rfl) ?_ ?_; rotate_left; (focus assumption); simp only [Act.put, List.setIfInBounds_toArray, List.set_cons_zero, List.set_cons_succ]) | (refine Txt.tl_skip (by rfl) (by first | trivial | rfl | assumption) ?_; simp only [Act.put, List.setIfInBounds_toArray, List.set_cons_zero, List.set_cons_succ])))
      refine Txt.tl_nil ?_
      have HM : Hid _ := HM.out.drew
      clear d32 d35 c4
      have c5 := HM.out.cell 5 rfl 0 (v := .int .i64 now) rfl
      go_wp2_with (first | (go_at_call 26; refine (HCk.out _).mono ?_; rintro e w3 ⟨rfl, h3⟩; replace h3 := h3.symm; subst h3) | ((with_reducible refine at_store 3 ?_); refine wpList_plain rfl fun K hK => wp_storeInt (p := ⟨g, i * 37 + 33, none⟩) rfl rfl rfl rfl (row_cell (HM.out.get 1 rfl) Hx.out (fe_d _)) (row_free (HM.out.get 1 rfl) _) (hK _ _ ?_); have HM : Hid _ := fset HM.out 1 rfl Hx.out (by decide) (fe_sd _ ck)) | ((with_reducible refine at_store 4 ?_); refine wpList_plain rfl fun K hK => wp_storeB (p := ⟨bh, 0, none⟩) rfl rfl rfl rfl (HM.out.cell 6 rfl 0 rfl) (HM.out.free 6 rfl 0) (hK _ _ ?_); have HM : Hid _ := HM.out.setc 6 rfl 0 (.bool true)))
      go_end0
      exact ⟨rfl, _, true, Chg.set (x' := { x with d := ck }) Hx.out rfl rfl rfl, HM.out⟩
    | false =>
      go_enter Try.func34, Try.ntmps34
      go_wp2
      refine Txt.wp_region_text (fun _ => True) [0, 0, 0, 1, 1, 0, 0, 0, 0, 0, 1, 0] (by kernel_rfl) (by kernel_rfl) trivial ?_
      (repeat (first | (refine Txt.tl_pure (v := ?_) (by rfl) ?_ ?_; rotate_left; (focus (intro _; go_simp; try with_reducible rfl)); simp only [Act.put, List.setIfInBounds_toArray, List.set_cons_zero, List.set_cons_succ]) | (refine Txt.tl_load (v := ?_) (by rfl) (by rfl) (by rfl) (by kernel_rfl) ?_ ?_; rotate_left; (focus assumption); simp only [Act.put, List.setIfInBounds_toArray, List.set_cons_zero, List.set_cons_succ]) | (refine Txt.tl_skip (by rfl) (by first | trivial | rfl | assumption) ?_; simp only [Act.put, List.setIfInBounds_toArray, List.set_cons_zero, List.set_cons_succ])))
      refine Txt.tl_nil ?_
      go_wp2
      go_end0
      exact ⟨rfl, L, t, Chg.refl L, HM.out.drew⟩
  · have hbe : (xp == fr) = false := by simpa using hpf
    clear hpf
    go_enter Try.func34, Try.ntmps34
    go_wp2
    refine Txt.wp_region_text (fun _ => True) [0, 0, 0, 1, 1, 0, 0, 0, 0, 0, 1, 0] (by kernel_rfl) (by kernel_rfl) trivial ?_
    (repeat (first | (refine Txt.tl_pure (v := ?_) (by rfl) ?_ ?_; rotate_left; (focus (intro _; go_simp; try with_reducible rfl)); simp only [Act.put, List.setIfInBounds_toArray, List.set_cons_zero, List.set_cons_succ]) | (refine Txt.tl_load (v := ?_) (by rfl) (by rfl) (by rfl) (by kernel_rfl) ?_ ?_; rotate_left; (focus assumption); simp only [Act.put, List.setIfInBounds_toArray, List.set_cons_zero, List.set_cons_succ]) | (refine Txt.tl_skip (by rfl) (by first | trivial | rfl | assumption) ?_; simp only [Act.put, List.setIfInBounds_toArray, List.set_cons_zero, List.set_cons_succ])))
    refine Txt.tl_nil ?_
    go_wp2
    go_end0
    exact ⟨rfl, L, t, Chg.refl L, HM.out.drew⟩
structure WPost (w : World) (b b2 : Nat) (lv hv : Value) (L : List Fd) (H : List Wd) (at_ : Int) (sf : Int) (e : Ending) (w' : World) : Prop where
  ex : ∃ r L' S', e = .returned (.bool r) ∧ Chg L L' ∧ SOk S' sf ∧ FTo w w' b b2 lv hv lv hv L' H at_ S' sf
set_option maxRecDepth 100000 in
set_option maxHeartbeats 8000000 in
theorem fwrong (w : World) (b b2 : Nat) (lv hv : Value) (L : List Fd) (H : List Wd) (at_ : Int) (S : List Int) (sf : Int) (h : FAt w b b2 lv hv L H at_ S sf) (hL : L.length ≤ 100) (hS : SOk S sf) (fr now : Int) :
    Calls Try.prog 15 #[.pointer (some ⟨b, 0, none⟩), .int .i64 fr, .int .i64 now] w (WPost w b b2 lv hv L H at_ sf) := by
  have HM : Hid (M (ffoot b b2 lv hv) w _ (fit b b2 lv hv L H at_ S sf ++ [blk w.heap.size (bxI fr), blk (w.heap.size + 1) (bxI now)])) := (h.all.alloc (bxI fr) rfl).alloc (bxI now) (by simp)
  have HN : Hid (∀ w', w'.cell? ⟨b, 1, none⟩ = some (.pointer (some ⟨b2, 0, none⟩)) → Calls Try.prog 22 #[.pointer (some ⟨b, 0, none⟩)] w' fun e w'' => e = .returned (.bool false) ∧ w'' = w') := fun w' c => fnone w' b b2 c
  have HSo : Hid (SOk S sf) := hS
  have HeG := due_eg
  obtain ⟨n, hn⟩ : ∃ n, L.length = n := ⟨_, rfl⟩
  have Hn : Hid (L.length = n) := hn
  rw [hn] at hL
  obtain ⟨la, lc, e1, _⟩ := h.row.any
  have HFm : Hid (n = 0 ∨ ∃ g, la = some ⟨g, 0, none⟩) := by
    rcases own_form h.row with ⟨_, e⟩ | ⟨g, c, e⟩
    · left; rw [← hn, e]; rfl
    · right; rw [e] at e1; cases e1; exact ⟨g, rfl⟩
  rw [hn] at e1
  subst e1
  clear h hS hn
  go_enter Try.func15, Try.ntmps15
  go_wp2_with (first | (go_at_call 22; refine (HN.out _ (HM.out.cell 0 rfl 1 rfl)).mono ?_; rintro e w1 ⟨rfl, h1⟩; replace h1 := h1.symm; subst h1; have HM : Hid _ := HM.out.alloc (bxB false) (b := w.heap.size + 1 + 1) (by simp); have c0 := HM.out.cell 0 rfl 0 (v := .slice la n lc) rfl))
  clear c0
  go_loopw [18] (fun s18 wr => ∃ (k : Nat) (L1 : List Fd) (t1 : Bool), k ≤ n ∧ s18 = .int .i64 k ∧ Chg L L1 ∧ M (ffoot b b2 (.slice la n lc) hv) w wr (fit b b2 (.slice la n lc) hv L1 H at_ S sf ++ [blk w.heap.size (bxI fr), blk (w.heap.size + 1) (bxI now), blk (w.heap.size + 1 + 1) (bxB t1)])) (fun s18 _ => n - (intOf s18).toNat)
  case atStart => exact ⟨0, L, false, Nat.zero_le _, by go_num, Chg.refl L, HM.out⟩
  case round =>
    clear HM
    obtain ⟨k, L1, t1, hk, rfl, hch, hM⟩ := hrel
    have HM : Hid (M (ffoot b b2 (.slice la n lc) hv) w wr (fit b b2 (.slice la n lc) hv L1 H at_ S sf ++ [blk w.heap.size (bxI fr), blk (w.heap.size + 1) (bxI now), blk (w.heap.size + 1 + 1) (bxB t1)])) := hM
    have HCh : Hid (Chg L L1) := hch
    clear hM hch
    by_cases hlt : k < n
    · obtain ⟨g, eg⟩ := HFm.out.resolve_left (by omega)
      subst eg
      obtain ⟨x, hx⟩ : ∃ x, L1[k]? = some x := ⟨_, List.getElem?_eq_getElem (by rw [HCh.out.len, Hn.out]; exact hlt)⟩
      have HD : Hid (Calls Try.prog 34 #[.pointer (some ⟨g, k * 37, none⟩), .pointer (some ⟨w.heap.size, 0, none⟩), .pointer (some ⟨w.heap.size + 1, 0, none⟩), .pointer (some ⟨w.heap.size + 1 + 1, 0, none⟩)] wr (DuePost (ffoot b b2 (.slice (some ⟨g, 0, none⟩) n lc) hv) w b b2 g n lc hv L1 H at_ S sf w.heap.size (w.heap.size + 1) (w.heap.size + 1 + 1) fr now)) := fdue HM.out k hx
      have c0 := HM.out.cell 0 rfl 0 (v := .slice (some ⟨g, 0, none⟩) n lc) rfl
      clear hx HM
      go_wp2_with (first | (go_at_fn 34; refine HD.out.mono ?_; rintro e w3 ⟨rfl, L3, t3, ch3, m3⟩; have HM : Hid _ := m3; have HC3 : Hid (Chg L1 L3) := ch3; clear m3 ch3))
      go_roundw
      case rel => exact ⟨k + 1, L3, t3, by omega, by go_num, HCh.out.trans HC3.out, HM.out⟩
      case measure => simp [intOf]; omega
    · obtain rfl : k = n := by omega
      have c6 := HM.out.cell 6 rfl 0 (v := .bool t1) rfl
      cases t1 with
      | false =>
        go_wp2
        go_ret
        exact ⟨_, L1, S, rfl, HCh.out, HSo.out, FTo.of (HM.out.take 4)⟩
      | true =>
        go_wp2
        refine Txt.wp_region_text (fun _ => True) [0, 0, 0, 1, 1, 4] (by kernel_rfl) (by kernel_rfl) trivial ?_
        have HM : Hid _ := HM.out.drew
        have c1 := HM.out.cell 0 rfl 1 (v := .pointer (some ⟨b2, 0, none⟩)) rfl
        have c4 := HM.out.cell 4 rfl 0 (v := .int .i64 fr) rfl
        (repeat (first | (refine Txt.tl_pure (v := ?_) (by rfl) ?_ ?_; rotate_left; (focus (intro _; go_simp; try with_reducible rfl)); simp only [Act.put, List.setIfInBounds_toArray, List.set_cons_zero, List.set_cons_succ]) | (refine Txt.tl_load (v := ?_) (by rfl) (by rfl) (by rfl) (by kernel_rfl) ?_ ?_; rotate_left; (focus assumption); simp only [Act.put, List.setIfInBounds_toArray, List.set_cons_zero, List.set_cons_succ]) | (refine Txt.tl_skip (by rfl) (by first | trivial | rfl | assumption) ?_; simp only [Act.put, List.setIfInBounds_toArray, List.set_cons_zero, List.set_cons_succ])))
        refine Txt.tl_call Try.func8 (by kernel_rfl) (by kernel_rfl) (by rfl) (by rfl) (by rfl) (bturn _ b2 S sf HSo.out (HM.out.get 3 rfl) fr (-5) (by decide)) ?_
        rintro e w5 ⟨⟨cc, rfl⟩, hb5, k5⟩
        have HM : Hid _ := upB HM.out 3 rfl hb5 k5
        clear hb5 k5 c1 c4 c6
        refine ⟨_, rfl, trivial, ?_⟩
        simp only [Act.put, List.setIfInBounds_toArray, List.set_cons_zero, List.set_cons_succ]
        refine Txt.tl_nil ?_
        have c6 := HM.out.cell 6 rfl 0 (v := .bool true) rfl
        go_wp2
        go_ret
        exact ⟨_, L1, _, rfl, HCh.out, HSo.out.turn fr (-5), FTo.of (HM.out.take 4)⟩
/-! Done. -/
set_option maxRecDepth 100000 in
theorem done1_any (w : World) (b0 : Nat) (a : Option Addr) (n c : Nat) (ms : List Wd) (fr : Nat × Nat) (hb : w.heap[b0]? = some (.cells #[.slice a n c] 30 fr)) (hA : At w a n ms) (hn : n ≤ 1000) (u : Wd) (hu : u.length = 32) :
    Calls Try.prog 35 #[idv u, .pointer (some ⟨b0, 0, none⟩)] w fun e w' => e = .returned (.bool (decide (u ∈ ms))) ∧ Keep (fun _ => False) w w' := by
  have HM : Hid (M (fun _ => False) w _ [blk w.heap.size (.cells (u.map bv).toArray 32)]) := (M.start _ w).alloc (.cells (u.map bv).toArray 32) rfl
  have HU : Hid (u.length = 32) := hu
  have c0 : (w.alloc (.cells (u.map bv).toArray 32)).cell? ⟨b0, 0, none⟩ = some (.slice a n c) := kcell HM.out.keep (by rw [cell_of hb]; rfl)
  have HH : Hid (Calls Try.prog 36 #[.slice a n c, idv u] (w.alloc (.cells (u.map bv).toArray 32)) fun e w' => e = .returned (.bool (decide (u ∈ ms))) ∧ Keep (fun _ => False) (w.alloc (.cells (u.map bv).toArray 32)) w') := has_any _ a n c ms (hA.calm HM.out.keep) (by omega) u hu
  clear hb hA hu
  generalize decide (u ∈ ms) = r at HH ⊢
  go_enter Try.func35, Try.ntmps35
  go_wp2_with (first | ((with_reducible refine at_load 32 ?_); refine Ids.wl_load rfl rfl rfl HU.out (HM.out.range 0 rfl) ?_; simp only [Act.put, List.setIfInBounds_toArray, List.set_cons_zero, List.set_cons_succ]) | (go_at_call 36; refine HH.out.mono ?_; rintro e w2 ⟨rfl, k2⟩; have HM : Hid _ := HM.out.calm k2; clear k2))
  go_ret
  exact ⟨rfl, HM.out.keep⟩
theorem done1_eg : ∀ args w, (callFunc 35 args).run Try.prog w = .ok (.enter 35 args) w := enters_of Try.func35 (by kernel_rfl) rfl
set_option maxRecDepth 100000 in
theorem done2_any (w : World) (b0 b1 : Nat) (a : Option Addr) (n c : Nat) (ms : List Wd) (fr fr2 : Nat × Nat) (T : TypeId) (hb : w.heap[b0]? = some (.cells #[.slice a n c] 30 fr)) (hb1 : w.heap[b1]? = some (.cells #[.func (.func 35) #[] #[.pointer (some ⟨b0, 0, none⟩)]] T fr2)) (hA : At w a n ms) (hn : n ≤ 1000) (x : Fd) :
    Calls Try.prog 38 #[.agg (fe x).toArray, .pointer (some ⟨b1, 0, none⟩)] w fun e w' => e = .returned (.bool (decide (x.u ∈ ms))) ∧ Keep (fun _ => False) w w' := by
  have HM : Hid (M (fun _ => False) w _ [blk w.heap.size (xO x)]) := (M.start _ w).alloc (xO x) rfl
  have HU : Hid (x.u.length = 32) := x.hu
  have c0 : (w.alloc (xO x)).cell? ⟨b1, 0, none⟩ = some (.func (.func 35) #[] #[.pointer (some ⟨b0, 0, none⟩)]) := kcell HM.out.keep (by rw [cell_of hb1]; rfl)
  have HH : Hid (Calls Try.prog 35 #[idv x.u, .pointer (some ⟨b0, 0, none⟩)] (w.alloc (xO x)) fun e w' => e = .returned (.bool (decide (x.u ∈ ms))) ∧ Keep (fun _ => False) (w.alloc (xO x)) w') := done1_any _ b0 a n c ms fr (HM.out.keep.get hb (fun h => h)) (hA.calm HM.out.keep) hn x.u x.hu
  have R1 : Hid (World.rangeAt _ w.heap.size 0 (x.u.map bv)) := fe_rng (HM.out.range 0 rfl)
  have hEg := done1_eg
  clear hb hb1 hA
  generalize decide (x.u ∈ ms) = r at HH ⊢
  go_enter Try.func38, Try.ntmps38
  go_wp2_with (first | ((with_reducible refine at_load 32 ?_); refine Ids.wl_load rfl rfl rfl HU.out R1.out ?_; simp only [Act.put, List.setIfInBounds_toArray, List.set_cons_zero, List.set_cons_succ]) | (go_at_fn 35; refine HH.out.mono ?_; rintro e w2 ⟨rfl, k2⟩; have HM : Hid _ := HM.out.calm k2; clear k2))
  go_ret
  exact ⟨rfl, HM.out.keep⟩
theorem done2_eg : ∀ args w, (callFunc 38 args).run Try.prog w = .ok (.enter 38 args) w := enters_of Try.func38 (by kernel_rfl) rfl
end Fe
end Go.Proofs.Ytgllkfolckbdhaa
