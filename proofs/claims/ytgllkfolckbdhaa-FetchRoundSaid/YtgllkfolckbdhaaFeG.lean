/-
  fetch: Done.
-/
import Derived.Test.YtgllkfolckbdhaaFeF
set_option linter.unusedVariables false
set_option linter.unusedSimpArgs false
namespace Go.Proofs.Ytgllkfolckbdhaa
open Go.RowKit
namespace Fe
open Oct Ids Mp
open Mem (M It blk ids rows)
abbrev bxS (a : Option Addr) (n c : Nat) : Obj := .cells #[.slice a n c] 30
abbrev bxG (b0 : Nat) : Obj := .cells #[.func (.func 35) #[] #[.pointer (some ⟨b0, 0, none⟩)]] 69
section
variable {o : Oper} {a : Act} {w : World} {K : Act → World → Prop} {Q : Exit → Act → World → Prop}
theorem run_storeG {w : World} {p : Addr} {f : Nat} {bs ls : Array Value} {old : Value} (hc : w.cell? p = some old) (hf : w.frozen? p = false) : (Instr.storeAt 69 (.pointer (some p)) (.func (.func f) bs ls)).run Try.prog w = .ok () (w.setCell p (.func (.func f) bs ls)) := by
  have h1 : (storeVar 69 p (.func (.func f) bs ls)).run Try.prog w = .ok () (w.setCell p (.func (.func f) bs ls)) := by
    obtain ⟨g, i, fa⟩ := p
    have hst : (store ⟨g, i, fa⟩ (.func (.func f) bs ls)).run Try.prog w = .ok () (w.setCell ⟨g, i, fa⟩ (.func (.func f) bs ls)) := by
      rw [run_store _ _ _ _ _ (by rfl), hc]
      simp [hf]
    go_simp
  unfold Instr.storeAt Instr.sureAddr
  simp only [Sem.run_bind, Sem.run_pure, Result.andThen_ok, h1]
theorem wp_storeG {x y : Operand} (ho : o.op = .store 69 x y) (hd : o.dst = none) {p : Addr} (hx : a.eval x = .pointer (some p)) {f : Nat} {bs ls : Array Value} (hy : a.eval y = .func (.func f) bs ls) {old : Value} (hc : w.cell? p = some old) (hf : w.frozen? p = false)
    (h : K a (w.setCell p (.func (.func f) bs ls))) : o.wp Try.prog a w K Q := by
  unfold Oper.wp execOp
  simp only [ho, hx, hy, Sem.run_bind, run_storeG hc hf, Result.andThen_ok, Sem.run_pure]
  rw [Oper.upon_skip, hd]
  exact h
end
structure DPost (w : World) (b b2 : Nat) (lv hv : Value) (L : List Fd) (H : List Wd) (at_ : Int) (sf : Int) (ms : List Wd) (e : Ending) (w' : World) : Prop where
  ex : ∃ r S' lv' hv', e = .returned (.bool r) ∧ SOk S' sf ∧ FTo w w' b b2 lv hv lv' hv' (L.filter fun x => !inL ms x) (H.filter fun u => !inH ms u) at_ S' sf
set_option maxRecDepth 100000 in
set_option maxHeartbeats 16000000 in
theorem fdone (w : World) (b b2 : Nat) (lv hv : Value) (L : List Fd) (H : List Wd) (at_ : Int) (S : List Int) (sf : Int) (h : FAt w b b2 lv hv L H at_ S sf) (hL : L.length ≤ 100) (hH : H.length ≤ 1000) (hS : SOk S sf) (a : Option Addr) (n c : Nat) (ms : List Wd) (hA : At w a n ms) (hn : n ≤ 1000) (hap : Apart b b2 lv hv a n) (fr : Int) :
    Calls Try.prog 16 #[.pointer (some ⟨b, 0, none⟩), .slice a n c, .int .i64 fr] w (DPost w b b2 lv hv L H at_ sf ms) := by
  have HM : Hid (M (ffoot b b2 lv hv) w _ (fit b b2 lv hv L H at_ S sf ++ [blk w.heap.size (bxS a n c)])) := h.all.alloc (bxS a n c) rfl
  have HA : Hid (∀ w', Keep (ffoot b b2 lv hv) w w' → At w' a n ms) := fun w' k => At.keepN hA k hap
  have HLl : Hid (L.length ≤ 100) := hL
  have HHl : Hid (H.length ≤ 1000) := hH
  have HSo : Hid (SOk S sf) := hS
  have Hn : Hid (ms.length = n) := hA.len
  have HN : Hid (∀ w', w'.cell? ⟨b, 1, none⟩ = some (.pointer (some ⟨b2, 0, none⟩)) → Calls Try.prog 22 #[.pointer (some ⟨b, 0, none⟩)] w' fun e w'' => e = .returned (.bool false) ∧ w'' = w') := fun w' c => fnone w' b b2 c
  have HF : Hid (∀ (w' : World) (it : List It), M (ffoot b b2 lv hv) w w' (fit b b2 lv hv L H at_ S sf ++ it) → ∀ u : Wd, u.length = 32 → Calls Try.prog 33 #[.pointer (some ⟨b, 0, none⟩), idv u] w' fun e w'' => e = .returned (fptr lv (fidx L u)) ∧ Keep (fun _ => False) w' w'') := fun w' it m u hu => ffind w' b b2 lv hv L H at_ S sf (mkF (m.take 4)) hL u hu
  have HD : Hid (∀ (w1 : World) (v : Value) (b1 : Nat), Keep (ffoot b b2 lv hv) w w1 → OwnF w1 v L → v = lv → w1.heap[w.heap.size]? = some (bxS a n c) → w1.heap[b1]? = some (bxG w.heap.size) → (∀ k, v.ownBlock = some k → k ≠ w.heap.size) → (∀ k, v.ownBlock = some k → k ≠ b1) →
      Calls Try.prog 37 #[v, .func (.func 38) #[] #[.pointer (some ⟨b1, 0, none⟩)]] w1 fun e w' => ∃ v', e = .returned v' ∧ OwnF w' v' (L.filter fun x => !inL ms x) ∧ v'.ownBlock = v.ownBlock ∧ Keep (fun k => v.ownBlock = some k) w1 w') := by
    intro w1 v b1 k1 ho ev hb hb1 hne hne1
    refine fdelete_any w1 v L ho (by omega) _ #[] #[.pointer (some ⟨b1, 0, none⟩)] (inL ms) done2_eg (fun w2 x _ k2 => ?_)
    exact done2_any w2 w.heap.size b1 a n c ms (0, 0) (0, 0) _ (k2.get hb (fun e => hne _ e rfl)) (k2.get hb1 (fun e => hne1 _ e rfl)) (HA.out w2 (k1.trans (k2.mono fun k _ e => .inr (.inl (by rw [← ev]; exact e))))) hn x
  have HD2 : Hid (∀ (w1 : World) (v : Value), Keep (ffoot b b2 lv hv) w w1 → Ids.Own w1 v H → v = hv → w1.heap[w.heap.size]? = some (bxS a n c) → (∀ k, v.ownBlock = some k → k ≠ w.heap.size) →
      Calls Try.prog 39 #[v, .func (.func 35) #[] #[.pointer (some ⟨w.heap.size, 0, none⟩)]] w1 fun e w' => ∃ v', e = .returned v' ∧ Ids.Own w' v' (H.filter fun u => !inH ms u) ∧ v'.ownBlock = v.ownBlock ∧ Keep (fun k => v.ownBlock = some k) w1 w') := by
    intro w1 v k1 ho ev hb hne
    refine Ids.delete_any w1 v H ho (by omega) _ #[] #[.pointer (some ⟨w.heap.size, 0, none⟩)] (inH ms) done1_eg (fun w2 x k2 hx => ?_)
    exact done1_any w2 w.heap.size a n c ms (0, 0) (k2.get hb (fun e => hne _ e rfl)) (HA.out w2 (k1.trans (k2.mono fun k _ e => .inr (.inr (.inl (by rw [← ev]; exact e)))))) hn x hx
  clear h hL hH hS hA hap
  obtain ⟨la, lc, e1, _⟩ := (show OwnF _ lv L from HM.out.get 1 rfl).any
  obtain ⟨ha, hc, e2, _⟩ := (show Ids.Own _ hv H from HM.out.get 2 rfl).at
  obtain ⟨ln, hln⟩ : ∃ q, L.length = q := ⟨_, rfl⟩
  obtain ⟨hn', hhn⟩ : ∃ q, H.length = q := ⟨_, rfl⟩
  have Hln : Hid (L.length = ln) := hln
  rw [hln] at e1
  rw [hhn] at e2
  subst e1 e2
  clear hln hhn
  go_enter Try.func16, Try.ntmps16
  go_wp2_with (first | (go_at_call 22; refine (HN.out _ (HM.out.cell 0 rfl 1 rfl)).mono ?_; rintro e w1 ⟨rfl, h1⟩; replace h1 := h1.symm; subst h1; have c4 := HM.out.cell 4 rfl 0 (v := .slice a n c) rfl))
  clear c4
  go_loopw [7, 16] (fun s7 s16 wr => ∃ (k : Nat) (t : Bool), k ≤ n ∧ s7 = .bool t ∧ s16 = .int .i64 k ∧ M (ffoot b b2 (.slice la ln lc) (.slice ha hn' hc)) w wr (fit b b2 (.slice la ln lc) (.slice ha hn' hc) L H at_ S sf ++ [blk w.heap.size (bxS a n c)])) (fun _ s16 _ => n - (intOf s16).toNat)
  case atStart => exact ⟨0, false, Nat.zero_le _, rfl, by go_num, HM.out⟩
  case round =>
    clear HM
    obtain ⟨k, t, hk, rfl, rfl, hM⟩ := hrel
    have HM : Hid (M (ffoot b b2 (.slice la ln lc) (.slice ha hn' hc)) w wr (fit b b2 (.slice la ln lc) (.slice ha hn' hc) L H at_ S sf ++ [blk w.heap.size (bxS a n c)])) := hM
    clear hM
    by_cases hlt : k < n
    · obtain ⟨u, hu⟩ : ∃ u, ms[k]? = some u := ⟨_, List.getElem?_eq_getElem (by rw [Hn.out]; exact hlt)⟩
      have HU : Hid (u.length = 32) := (HA.out _ HM.out.keep).size u (List.mem_of_getElem? hu)
      obtain ⟨g0, o0, e0, _, hr0⟩ := (HA.out _ HM.out.keep).lay.resolve_left (by omega)
      subst e0
      have R1 : Hid (wr.rangeAt g0 (o0 + k * 32) (u.map bv)) := hr0 k u hu
      have HUs : Hid ((u.map bv).toArray.size = 32) := by show _ = _; rw [List.size_toArray, List.length_map]; exact HU.out
      have HFu : Hid (∀ (w' : World) (it : List It), M (ffoot b b2 (.slice la ln lc) (.slice ha hn' hc)) w w' (fit b b2 (.slice la ln lc) (.slice ha hn' hc) L H at_ S sf ++ it) → Calls Try.prog 33 #[.pointer (some ⟨b, 0, none⟩), idv u] w' fun e w'' => e = .returned (fptr (.slice la ln lc) (fidx L u)) ∧ Keep (fun _ => False) w' w'') := fun w' it m => HF.out w' it m u HU.out
      clear hr0 hu
      cases hi : fidx L u with
      | none =>
        have HP : Hid (fptr (.slice la ln lc) (fidx L u) = .pointer none) := by show _ = _; rw [hi]; rfl
        clear hi
        go_wp2_with (first | ((with_reducible refine at_dst 19 ?_); refine Ids.wl_load rfl rfl rfl HU.out R1.out ?_; simp only [Act.put, List.setIfInBounds_toArray, List.set_cons_zero, List.set_cons_succ]) | ((with_reducible refine at_alloc 32 ?_); refine St.wl_alloc tyI rfl rfl (by (try simp only [World.size_alloc]); rfl) ?_; simp only [Act.put, List.setIfInBounds_toArray, List.set_cons_zero, List.set_cons_succ]) | ((with_reducible refine at_store 32 ?_); refine St.wl_storeN (W := wr) tyI rfl rfl rfl rfl rfl (by (try simp only [World.size_alloc])) (show _ = Value.agg (u.map bv).toArray from rfl) HUs.out rfl (one_bv _) ?_; have HM : Hid _ := HM.out.alloc (.cells (u.map bv).toArray 32) rfl) | ((with_reducible refine at_dst 21 ?_); refine Ids.wl_load rfl rfl rfl HU.out (HM.out.range 5 rfl) ?_; simp only [Act.put, List.setIfInBounds_toArray, List.set_cons_zero, List.set_cons_succ]) | (go_at_call 33; refine (HFu.out _ _ HM.out).mono ?_; rintro e w2 ⟨rfl, k2⟩; rw [HP.out]; have HM : Hid _ := HM.out.calm k2; clear k2))
        go_roundw
        case rel => exact ⟨k + 1, t, by omega, rfl, by go_num, HM.out.take 5⟩
        case measure => simp [intOf]; omega
      | some i =>
        obtain ⟨x, hx⟩ := fidx_at hi
        have hil := (List.getElem?_eq_some_iff.1 hx).1
        rcases own_form (show OwnF wr (.slice la ln lc) L from HM.out.get 1 rfl) with ⟨_, e⟩ | ⟨g, c', e⟩
        · subst e; simp at hx
        · simp only [Value.slice.injEq] at e
          obtain ⟨rfl, -, -⟩ := e
          have HP : Hid (fptr (.slice (some ⟨g, 0, none⟩) ln lc) (fidx L u) = .pointer (some ⟨g, i * 37, none⟩)) := by show _ = _; rw [hi]; show Value.pointer (some ⟨g, 0 + i * 37, none⟩) = _; rw [Nat.zero_add]
          have HC : Hid (∀ (w' : World) (it : List It), M (ffoot b b2 (.slice (some ⟨g, 0, none⟩) ln lc) (.slice ha hn' hc)) w w' (fit b b2 (.slice (some ⟨g, 0, none⟩) ln lc) (.slice ha hn' hc) L H at_ S sf ++ it) → w'.cell? ⟨g, i * 37 + 32, none⟩ = some (.int .i64 x.p)) := fun w' it m => row_cell (m.get 1 rfl) hx (fe_p x)
          clear hi hx hil
          obtain ⟨xp, hxp⟩ : ∃ p, x.p = p := ⟨_, rfl⟩
          rw [hxp] at HC
          clear hxp
          by_cases hpf : xp = fr
          · subst hpf
            have hbe : (xp == xp) = true := by simp
            go_wp2_with (first | ((with_reducible refine at_dst 19 ?_); refine Ids.wl_load rfl rfl rfl HU.out R1.out ?_; simp only [Act.put, List.setIfInBounds_toArray, List.set_cons_zero, List.set_cons_succ]) | ((with_reducible refine at_alloc 32 ?_); refine St.wl_alloc tyI rfl rfl (by (try simp only [World.size_alloc]); rfl) ?_; simp only [Act.put, List.setIfInBounds_toArray, List.set_cons_zero, List.set_cons_succ]) | ((with_reducible refine at_store 32 ?_); refine St.wl_storeN (W := wr) tyI rfl rfl rfl rfl rfl (by (try simp only [World.size_alloc])) (show _ = Value.agg (u.map bv).toArray from rfl) HUs.out rfl (one_bv _) ?_; have HM : Hid _ := HM.out.alloc (.cells (u.map bv).toArray 32) rfl) | ((with_reducible refine at_dst 21 ?_); refine Ids.wl_load rfl rfl rfl HU.out (HM.out.range 5 rfl) ?_; simp only [Act.put, List.setIfInBounds_toArray, List.set_cons_zero, List.set_cons_succ]) | (go_at_call 33; refine (HFu.out _ _ HM.out).mono ?_; rintro e w2 ⟨rfl, k2⟩; rw [HP.out]; have HM : Hid _ := HM.out.calm k2; have d32 := HC.out _ _ HM.out; clear k2))
            go_roundw
            case rel => exact ⟨k + 1, true, by omega, rfl, by go_num, HM.out.take 5⟩
            case measure => simp [intOf]; omega
          · have hbe : (xp == fr) = false := by simpa using hpf
            clear hpf
            go_wp2_with (first | ((with_reducible refine at_dst 19 ?_); refine Ids.wl_load rfl rfl rfl HU.out R1.out ?_; simp only [Act.put, List.setIfInBounds_toArray, List.set_cons_zero, List.set_cons_succ]) | ((with_reducible refine at_alloc 32 ?_); refine St.wl_alloc tyI rfl rfl (by (try simp only [World.size_alloc]); rfl) ?_; simp only [Act.put, List.setIfInBounds_toArray, List.set_cons_zero, List.set_cons_succ]) | ((with_reducible refine at_store 32 ?_); refine St.wl_storeN (W := wr) tyI rfl rfl rfl rfl rfl (by (try simp only [World.size_alloc])) (show _ = Value.agg (u.map bv).toArray from rfl) HUs.out rfl (one_bv _) ?_; have HM : Hid _ := HM.out.alloc (.cells (u.map bv).toArray 32) rfl) | ((with_reducible refine at_dst 21 ?_); refine Ids.wl_load rfl rfl rfl HU.out (HM.out.range 5 rfl) ?_; simp only [Act.put, List.setIfInBounds_toArray, List.set_cons_zero, List.set_cons_succ]) | (go_at_call 33; refine (HFu.out _ _ HM.out).mono ?_; rintro e w2 ⟨rfl, k2⟩; rw [HP.out]; have HM : Hid _ := HM.out.calm k2; have d32 := HC.out _ _ HM.out; clear k2))
            go_roundw
            case rel => exact ⟨k + 1, t, by omega, rfl, by go_num, HM.out.take 5⟩
            case measure => simp [intOf]; omega
    · obtain rfl : k = n := by omega
      clear HF
      go_wp2_with (first | ((with_reducible refine at_store 69 ?_); have HM5 : Hid _ := HM.out.alloc (.cells #[.nilFunc] 69) rfl; refine wpList_plain rfl fun K hK => wp_storeG rfl rfl rfl rfl (HM5.out.cell 5 rfl 0 rfl) (HM5.out.free 5 rfl 0) (hK _ _ ?_); clear HM5; have HM : Hid _ := HM.out.alloc (bxG w.heap.size) rfl; have c0 := HM.out.cell 0 rfl 0 (v := .slice la ln lc) rfl) | (go_at_call 37; refine (HD.out _ _ _ HM.out.keep (HM.out.get 1 rfl) rfl (HM.out.get 4 rfl) (HM.out.get 5 rfl) (fun k hk e => HM.out.dis 1 4 _ _ rfl rfl (by decide) k hk e) (fun k hk e => HM.out.dis 1 5 _ _ rfl rfl (by decide) k hk e)).mono ?_; rintro e w2 ⟨v2, rfl, h2, g2, k2⟩; have HM : Hid _ := HM.out.appR 1 rfl h2 k2 (.inl g2); have HG : Hid (∃ a n c, v2 = .slice a n c) := (by obtain ⟨a, c, e, _⟩ := h2.any; exact ⟨_, _, _, e⟩); obtain ⟨a2, n2, c2, e2⟩ := HG.out; subst e2; clear h2 g2 k2 HG) | ((with_reducible refine at_store 36 ?_); refine wpList_plain rfl fun K hK => wp_storeF rfl rfl rfl rfl (HM.out.cell 0 rfl 0 rfl) (HM.out.free 0 rfl 0) (hK _ _ ?_); have HM : Hid _ := HM.out.setc 0 rfl 0 (.slice a2 n2 c2)))
      refine Txt.wp_region_text1 (fun _ => True) [0, 0, 0, 0, 1, 1, 4, 0, 0, 4] (by kernel_rfl) (by kernel_rfl) trivial ?_
      have HM : Hid _ := HM.out.drew
      clear c0
      have c2 := HM.out.cell 0 rfl 2 (v := .slice ha hn' hc) rfl
      have c5 := HM.out.cell 5 rfl 0 (v := .func (.func 35) #[] #[.pointer (some ⟨w.heap.size, 0, none⟩)]) rfl
      (repeat (first | (refine Txt.tl_pure (v := ?_) (by rfl) ?_ ?_; rotate_left; (focus (intro _; go_simp; try with_reducible rfl)); simp only [Act.put, List.setIfInBounds_toArray, List.set_cons_zero, List.set_cons_succ]) | (refine Txt.tl_load (v := ?_) (by rfl) (by rfl) (by rfl) (by kernel_rfl) ?_ ?_; rotate_left; (focus assumption); simp only [Act.put, List.setIfInBounds_toArray, List.set_cons_zero, List.set_cons_succ]) | (refine Txt.tl_skip (by rfl) (by first | trivial | rfl | assumption) ?_; simp only [Act.put, List.setIfInBounds_toArray, List.set_cons_zero, List.set_cons_succ])))
      refine Txt.tl_call Try.func39 (by kernel_rfl) (by kernel_rfl) (by rfl) (by rfl) (by rfl) (HD2.out _ (.slice ha hn' hc) HM.out.keep (HM.out.get 2 rfl) rfl (HM.out.get 4 rfl) (fun k hk e => HM.out.dis 2 4 _ _ rfl rfl (by decide) k hk e)) ?_
      rintro e w3 ⟨v3, rfl, h3, g3, k3⟩
      have HM : Hid _ := HM.out.appI 2 rfl h3 k3 (.inl g3)
      obtain ⟨a3, n3, c3, e3⟩ : ∃ a n c, v3 = .slice a n c := (by obtain ⟨a, c, e, _⟩ := h3.at; exact ⟨_, _, _, e⟩)
      subst e3
      clear h3 g3 k3 c2 c5
      refine ⟨_, rfl, trivial, ?_⟩
      simp only [Act.put, List.setIfInBounds_toArray, List.set_cons_zero, List.set_cons_succ]
      (repeat (first | (refine Txt.tl_pure (v := ?_) (by rfl) ?_ ?_; rotate_left; (focus (intro _; go_simp; try with_reducible rfl)); simp only [Act.put, List.setIfInBounds_toArray, List.set_cons_zero, List.set_cons_succ]) | (refine Txt.tl_load (v := ?_) (by rfl) (by rfl) (by rfl) (by kernel_rfl) ?_ ?_; rotate_left; (focus assumption); simp only [Act.put, List.setIfInBounds_toArray, List.set_cons_zero, List.set_cons_succ]) | (refine Txt.tl_skip (by rfl) (by first | trivial | rfl | assumption) ?_; simp only [Act.put, List.setIfInBounds_toArray, List.set_cons_zero, List.set_cons_succ])))
      refine Txt.tl_nil ?_
      refine Txt.tl_last (by rfl) (by rfl) ?_
      refine wp_storeI rfl rfl rfl rfl (HM.out.cell 0 rfl 2 rfl) (HM.out.free 0 rfl 2) ?_
      have HM : Hid _ := HM.out.setc 0 rfl 2 (.slice a3 n3 c3)
      have c1 := HM.out.cell 0 rfl 1 (v := .pointer (some ⟨b2, 0, none⟩)) rfl
      have HT : Hid (Calls Try.prog 8 #[.pointer (some ⟨b2, 0, none⟩), .int .i64 fr, .int .i64 1] _ fun e w' => (∃ c, e = .returned (.int .i64 c)) ∧ w'.heap[b2]? = some (bc (turnS S sf fr 1) sf) ∧ Keep (fun k => k = b2) _ w') := bturn _ b2 S sf HSo.out (HM.out.get 3 rfl) fr 1 (by decide)
      cases t with
      | false =>
        go_wp2
        go_ret
        exact ⟨_, S, _, _, rfl, HSo.out, FTo.of (HM.out.take 4)⟩
      | true =>
        go_wp2_with (first | (go_at_call 8; refine HT.out.mono ?_; rintro e w5 ⟨⟨cc, rfl⟩, hb5, k5⟩; have HM : Hid _ := upB HM.out 3 rfl hb5 k5; clear hb5 k5 c1 HT))
        go_ret
        exact ⟨_, _, _, _, rfl, HSo.out.turn fr 1, FTo.of (HM.out.take 4)⟩
end Fe
end Go.Proofs.Ytgllkfolckbdhaa
