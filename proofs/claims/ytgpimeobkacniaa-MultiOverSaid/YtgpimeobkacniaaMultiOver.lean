/-
  'petrellaw24.MultiOver': a writing under a new id that overwrites all that its key has is all that the key has then. For every input.
-/
import Derived.Test.YtgpimeobkacniaaGMc
set_option linter.unusedVariables false
set_option linter.unusedSimpArgs false
namespace Go.Proofs.Ytgpimeobkacniaa
open Go.RowKit Go.ChangeShapes Go.WideShapes Go.ChangeAt
open Go.ChangeMaps (open_string shut_string)
namespace MultiOver
open Oct Ids Mu Mp
open Mem (M It blk ids rows)
open Sq (own_idat two widen at_load at_alloc at_store wl_buildL)
attribute [local irreducible] Oper.wp wpOp
set_option maxRecDepth 100000 in
set_option maxHeartbeats 16000000 in
theorem walk (s : Opn.Sl AQ) (u : Wd) (hu : u.length = 32) (key val : ByteArray) (hk : key.size ≤ maxLen) (hv : val.size ≤ maxLen) (w : World) (hs : Opn.SlAt 35 layQ factQ w s) :
    Calls Try.prog 4 #[.slice s.a s.len s.cap, idv u, .string key, .string val] w fun e w' => e = .returned (.bool true) ∧ Below w.heap.size w w' := by
  obtain ⟨hA, hL, hlc, hcm⟩ := acs_of hs
  generalize s.els.map qk = A at hA hL
  generalize s.a = a at hA ⊢
  generalize s.len = n at hA hlc ⊢
  generalize s.cap = c at hlc hcm ⊢
  have HA : Hid (St.At 35 ae w a n A) := hA
  have HL : Hid (∀ x ∈ A, AcAt w x) := hL
  unfold maxLen at hcm hk hv
  have HU : Hid (u.length = 32) := hu
  have HUr : Hid (∀ w, Calls Try.prog 21 #[] w fun e w' => e = .returned (.bool true) ∧ Keep (fun _ => False) w w') := awakeM
  have HM : Hid (M (fun _ => False) w _ [blk w.heap.size (.cells (u.map bv).toArray 35)]) := (M.start _ w).alloc (.cells (u.map bv).toArray 35) rfl
  have HMu : Hid (∀ w1, Keep (fun _ => False) w w1 → Calls Try.prog 20 #[.slice a n c] w1 (MchPost w1 n A)) := fun w1 k1 => mmuch_any w1 a n c A (hA.calm k1) (fun x hx => (hL x hx).calm k1)
  clear hs hA hL hu
  by_cases hk16 : 16 < key.size
  · go_enter Try.func4, Try.ntmps4
    go_wp2_with (first | (go_at_call 20; refine (HMu.out _ HM.out.keep).mono ?_; rintro e w1 ⟨⟨p, rfl, k1, hp⟩⟩; have HM : Hid _ := HM.out.calm k1; have HP : Hid _ := hp; clear k1 hp; cases p) | (go_at_call 21; refine (awakeM _).mono ?_; rintro e w9 ⟨rfl, k9⟩; have HM : Hid _ := HM.out.calm k9; clear k9) | (go_at_call 22; refine (mnew _).mono ?_; rintro e w2 ⟨b, bl, bo, rfl, m2⟩; have HM : Hid _ := HM.out.add (x := muI b bl bo [] []) m2.keep (m2.get 0 rfl) (fun k hk => ⟨(m2.rng 0 _ rfl k hk).1.resolve_right (fun h => h), (m2.rng 0 _ rfl k hk).2⟩); clear m2))
    all_goals (go_ret; exact ⟨rfl, Keep.below HM.out.keep (Nat.le_refl _) (fun _ h => h.elim)⟩)
  by_cases hv16 : 16 < val.size
  · go_enter Try.func4, Try.ntmps4
    go_wp2_with (first | (go_at_call 20; refine (HMu.out _ HM.out.keep).mono ?_; rintro e w1 ⟨⟨p, rfl, k1, hp⟩⟩; have HM : Hid _ := HM.out.calm k1; have HP : Hid _ := hp; clear k1 hp; cases p) | (go_at_call 21; refine (awakeM _).mono ?_; rintro e w9 ⟨rfl, k9⟩; have HM : Hid _ := HM.out.calm k9; clear k9) | (go_at_call 22; refine (mnew _).mono ?_; rintro e w2 ⟨b, bl, bo, rfl, m2⟩; have HM : Hid _ := HM.out.add (x := muI b bl bo [] []) m2.keep (m2.get 0 rfl) (fun k hk => ⟨(m2.rng 0 _ rfl k hk).1.resolve_right (fun h => h), (m2.rng 0 _ rfl k hk).2⟩); clear m2))
    all_goals (go_ret; exact ⟨rfl, Keep.below HM.out.keep (Nat.le_refl _) (fun _ h => h.elim)⟩)
  go_enter Try.func4, Try.ntmps4
  go_wp2_with (first | (go_at_call 20; refine (HMu.out _ HM.out.keep).mono ?_; rintro e w1 ⟨⟨p, rfl, k1, hp⟩⟩; have HM : Hid _ := HM.out.calm k1; have HP : Hid _ := hp; clear k1 hp; cases p) | (go_at_call 21; refine (awakeM _).mono ?_; rintro e w9 ⟨rfl, k9⟩; have HM : Hid _ := HM.out.calm k9; clear k9) | (go_at_call 22; refine (mnew _).mono ?_; rintro e w2 ⟨b, bl, bo, rfl, m2⟩; have HM : Hid _ := HM.out.add (x := muI b bl bo [] []) m2.keep (m2.get 0 rfl) (fun k hk => ⟨(m2.rng 0 _ rfl k hk).1.resolve_right (fun h => h), (m2.rng 0 _ rfl k hk).2⟩); clear m2))
  rotate_left
  · go_ret
    exact ⟨rfl, Keep.below HM.out.keep (Nat.le_refl _) (fun _ h => h.elim)⟩
  obtain ⟨hn30, hf⟩ := HP.out (by trivial)
  have HF : Hid (∀ x ∈ A, few x) := hf
  clear hf HP HMu
  obtain ⟨bi, hbi⟩ : ∃ bi, w.heap.size = bi := ⟨_, rfl⟩
  have HBi : Hid (w.heap.size = bi) := hbi
  rw [hbi] at HM ⊢
  clear hbi
  go_loopw [10, 11] (fun s10 s11 wr => ∃ (k : Nat) (us : Bool) (L : List Wr) (O : List Wd), k ≤ n ∧ s10 = .bool us ∧ s11 = .int .i64 k ∧ M (fun _ => False) w wr [blk bi (.cells (u.map bv).toArray 35), muI b bl bo L O] ∧ L.Nodup ∧ L.length ≤ k ∧ (us = false → (∀ y ∈ L, y.u ≠ u) ∧ u ∉ O)) (fun _ s11 _ => n - (intOf s11).toNat)
  case atStart => exact ⟨0, _, [], [], Nat.zero_le _, rfl, rfl, HM.out, List.nodup_nil, Nat.le_refl _, fun _ => ⟨fun y hy => (by cases hy), fun h => (by cases h)⟩⟩
  case round =>
    clear HM
    obtain ⟨k, us, L, O, hk, rfl, rfl, hM, hn, hLl, hus⟩ := hrel
    have HM : Hid (M (fun _ => False) w wr [blk bi (.cells (u.map bv).toArray 35), muI b bl bo L O]) := hM
    have HN : Hid (L.Nodup) := hn
    have HLl : Hid (L.length ≤ k) := hLl
    have HUs : Hid (us = false → (∀ y ∈ L, y.u ≠ u) ∧ u ∉ O) := hus
    clear hM hn hLl hus
    by_cases hlt : k < n
    · obtain ⟨x, hx⟩ : ∃ x, A[k]? = some x := ⟨_, List.getElem?_eq_getElem (by rw [HA.out.len]; exact hlt)⟩
      obtain ⟨b1, o1, rfl, hb1, hr1⟩ : ∃ b off, a = some ⟨b, off, none⟩ ∧ b < w.heap.size ∧ ∀ i x, A[i]? = some x → w.rangeAt b (off + i * 35) (ae x) := by rcases HA.out.lay with e | e; omega; exact e
      have R0 : Hid (w.rangeAt b1 (o1 + k * 35) (ae x)) := hr1 k x hx
      have Hb1 : Hid (b1 < w.heap.size) := hb1
      have R1 : Hid (wr.rangeAt b1 (o1 + k * 35) (ae x)) := HM.out.keep.range hb1 (fun h => h) (hr1 k x hx)
      have HQl : Hid ((ae x).length = 35) := ae_len x
      have HX : Hid (AcAt w x) := HL.out x (List.mem_of_getElem? hx)
      have HFx : Hid (few x) := HF.out x (List.mem_of_getElem? hx)
      have HYl : Hid (x.x.u.length = 32) := x.x.hu
      clear hr1 hb1 hx
      go_wp2_with (first | ((with_reducible refine at_load 53 ?_); refine St.wl_load tyQ rfl rfl rfl R1.out HQl.out ?_; simp only [Act.put, List.setIfInBounds_toArray, List.set_cons_zero, List.set_cons_succ]) | (go_at_call 23; refine (mact_any _ b bl bo L O (HM.out.get 1 rfl) HN.out (by have := HLl.out; omega) x (HX.out.calm HM.out.keep) (fun g o e h0 hf => by have h1 := HX.out.lt e h0; have h2 := (HM.out.rng 1 _ rfl g hf).1.resolve_right (fun h => h); omega)).mono ?_; rintro e w3 ⟨rfl, L3, n3, m3, t3⟩; have HM : Hid _ := M.mto HM.out 1 rfl t3; have HN3 : Hid (L3.Nodup) := n3; have HM3 : Hid _ := m3; clear t3 n3 m3))
      have HL3 : Hid (L3.length ≤ k + 1) := by
        show _ ≤ _
        refine Nat.le_trans (nodup_len (U := x.x :: L) HN3.out fun y hy => ?_) (by have := HLl.out; simp; omega)
        rw [HM3.out] at hy
        split at hy
        · rcases hy.1 with h | h
          · exact List.mem_cons_of_mem _ h
          · rw [h]; exact List.mem_cons_self
        · exact List.mem_cons_of_mem _ hy
      have HU3 : Hid (us = false → x.x.u ≠ u → u ∉ x.ov → (∀ y ∈ L3, y.u ≠ u) ∧ u ∉ goO O x) := fun h1 h2 h3 => by
        obtain ⟨h4, h5⟩ := HUs.out h1
        refine ⟨fun y hy => ?_, ?_⟩
        · rw [HM3.out] at hy
          split at hy
          · rcases hy.1 with h | h
            · exact h4 y h
            · rw [h]; exact h2
          · exact h4 y hy
        · unfold goO
          split
          · rw [mem_addGs]; exact fun h => h.elim h5 h3
          · exact h5
      have hon : x.on ≤ 12 := HFx.out.1
      cases us with
      | true =>
        go_wp2
        have HM : Hid _ := HM.out.drew
        have RX : Hid _ := HM.out.keep.range Hb1.out (fun h => h) R0.out
        have d34 := rng_ao RX.out
        have RY : Hid _ := rng_wu (rng_ax RX.out)
        have RU : Hid _ := HM.out.range 0 rfl
        refine Txt.wp_region_text (fun _ => True) [0, 0, 0, 0, 0, 0, 0, 1, 1, 0, 0, 0, 0, 0, 0, 0, 1, 1, 4, 0, 0] (by kernel_rfl) (by kernel_rfl) trivial ?_
        (repeat (first | (refine Txt.tl_pure (v := ?_) (by rfl) ?_ ?_; rotate_left; (focus (intro _; go_simp; try with_reducible rfl)); simp only [Act.put, List.setIfInBounds_toArray, List.set_cons_zero, List.set_cons_succ]) | (refine Txt.tl_skip (by rfl) trivial ?_; simp only [Act.put, List.setIfInBounds_toArray, List.set_cons_zero, List.set_cons_succ]) | (refine Txt.tl_load (v := ?_) (by rfl) (by rfl) (by rfl) (by kernel_rfl) ?_ ?_; rotate_left; (focus assumption); simp only [Act.put, List.setIfInBounds_toArray, List.set_cons_zero, List.set_cons_succ]) | (refine Txt.tl_rowN (n := 32) (ty := 35) (by rfl) (by rfl) (by rfl) RY.out (by kernel_rfl) (by rw [List.length_map]; exact HYl.out) ?_; simp only [Act.put, List.setIfInBounds_toArray, List.set_cons_zero, List.set_cons_succ]) | (refine Txt.tl_rowN (n := 32) (ty := 35) (by rfl) (by rfl) (by rfl) RU.out (by kernel_rfl) (by rw [List.length_map]; exact HU.out) ?_; simp only [Act.put, List.setIfInBounds_toArray, List.set_cons_zero, List.set_cons_succ])))
        refine Txt.tl_nil ?_
        go_wp2
        go_roundw
        case rel => exact ⟨k + 1, true, L3, _, by omega, rfl, by go_num, HM.out, HN3.out, HL3.out, fun h => by cases h⟩
        case measure => simp [intOf]; omega
      | false =>
        have hgd := guard_id
        by_cases hxu : x.x.u = u
        · have hcmp : ∀ w, Sem.run Try.prog (binOp .eql 35 (idv x.x.u) (idv u)) w = .ok (.bool true) w := fun w => by rw [eql_id w x.x.u u HYl.out HU.out]; simp [hxu]
          clear hxu
          go_wp2
          have HM : Hid _ := HM.out.drew
          have RX : Hid _ := HM.out.keep.range Hb1.out (fun h => h) R0.out
          have d34 := rng_ao RX.out
          have RY : Hid _ := rng_wu (rng_ax RX.out)
          have RU : Hid _ := HM.out.range 0 rfl
          refine Txt.wp_region_text (fun _ => True) [0, 0, 0, 0, 0, 0, 0, 1, 1, 0, 0, 0, 0, 0, 0, 0, 1, 1, 4, 0, 0] (by kernel_rfl) (by kernel_rfl) trivial ?_
          (repeat (first | (refine Txt.tl_pure (v := ?_) (by rfl) ?_ ?_; rotate_left; (focus (intro _; go_simp; try with_reducible rfl)); simp only [Act.put, List.setIfInBounds_toArray, List.set_cons_zero, List.set_cons_succ]) | (refine Txt.tl_skip (by rfl) trivial ?_; simp only [Act.put, List.setIfInBounds_toArray, List.set_cons_zero, List.set_cons_succ]) | (refine Txt.tl_load (v := ?_) (by rfl) (by rfl) (by rfl) (by kernel_rfl) ?_ ?_; rotate_left; (focus assumption); simp only [Act.put, List.setIfInBounds_toArray, List.set_cons_zero, List.set_cons_succ]) | (refine Txt.tl_rowN (n := 32) (ty := 35) (by rfl) (by rfl) (by rfl) RY.out (by kernel_rfl) (by rw [List.length_map]; exact HYl.out) ?_; simp only [Act.put, List.setIfInBounds_toArray, List.set_cons_zero, List.set_cons_succ]) | (refine Txt.tl_rowN (n := 32) (ty := 35) (by rfl) (by rfl) (by rfl) RU.out (by kernel_rfl) (by rw [List.length_map]; exact HU.out) ?_; simp only [Act.put, List.setIfInBounds_toArray, List.set_cons_zero, List.set_cons_succ])))
          refine Txt.tl_nil ?_
          go_wp2
          go_roundw
          case rel => exact ⟨k + 1, true, L3, _, by omega, rfl, by go_num, HM.out, HN3.out, HL3.out, fun h => by cases h⟩
          case measure => simp [intOf]; omega
        · have hcmp : ∀ w, Sem.run Try.prog (binOp .eql 35 (idv x.x.u) (idv u)) w = .ok (.bool false) w := fun w => by rw [eql_id w x.x.u u HYl.out HU.out]; simp [hxu]
          have HXu : Hid (x.x.u ≠ u) := hxu
          clear hxu
          go_wp2
          have HM : Hid _ := HM.out.drew
          have RX : Hid _ := HM.out.keep.range Hb1.out (fun h => h) R0.out
          have d34 := rng_ao RX.out
          have RY : Hid _ := rng_wu (rng_ax RX.out)
          have RU : Hid _ := HM.out.range 0 rfl
          refine Txt.wp_region_text (fun _ => True) [0, 0, 0, 0, 0, 0, 0, 1, 1, 0, 0, 0, 0, 0, 0, 0, 1, 1, 4, 0, 0] (by kernel_rfl) (by kernel_rfl) trivial ?_
          (repeat (first | (refine Txt.tl_pure (v := ?_) (by rfl) ?_ ?_; rotate_left; (focus (intro _; go_simp; try with_reducible rfl)); simp only [Act.put, List.setIfInBounds_toArray, List.set_cons_zero, List.set_cons_succ]) | (refine Txt.tl_skip (by rfl) trivial ?_; simp only [Act.put, List.setIfInBounds_toArray, List.set_cons_zero, List.set_cons_succ]) | (refine Txt.tl_load (v := ?_) (by rfl) (by rfl) (by rfl) (by kernel_rfl) ?_ ?_; rotate_left; (focus assumption); simp only [Act.put, List.setIfInBounds_toArray, List.set_cons_zero, List.set_cons_succ]) | (refine Txt.tl_rowN (n := 32) (ty := 35) (by rfl) (by rfl) (by rfl) RY.out (by kernel_rfl) (by rw [List.length_map]; exact HYl.out) ?_; simp only [Act.put, List.setIfInBounds_toArray, List.set_cons_zero, List.set_cons_succ]) | (refine Txt.tl_rowN (n := 32) (ty := 35) (by rfl) (by rfl) (by rfl) RU.out (by kernel_rfl) (by rw [List.length_map]; exact HU.out) ?_; simp only [Act.put, List.setIfInBounds_toArray, List.set_cons_zero, List.set_cons_succ])))
          refine Txt.tl_call Try.func24 (by kernel_rfl) (by kernel_rfl) (by rfl) (by rfl) (by rfl) (xhas_any _ x.oa x.on x.oc x.ov (HX.out.1.calm HM.out.keep) (by omega) u HU.out) ?_
          rintro e w4 ⟨rfl, k4⟩
          have HM : Hid _ := HM.out.calm k4
          clear k4 d34
          refine ⟨_, rfl, trivial, ?_⟩
          simp only [Act.put, List.setIfInBounds_toArray, List.set_cons_zero, List.set_cons_succ]
          (repeat (first | (refine Txt.tl_pure (v := ?_) (by rfl) ?_ ?_; rotate_left; (focus (intro _; go_simp; try with_reducible rfl)); simp only [Act.put, List.setIfInBounds_toArray, List.set_cons_zero, List.set_cons_succ]) | (refine Txt.tl_skip (by rfl) trivial ?_; simp only [Act.put, List.setIfInBounds_toArray, List.set_cons_zero, List.set_cons_succ]) | (refine Txt.tl_load (v := ?_) (by rfl) (by rfl) (by rfl) (by kernel_rfl) ?_ ?_; rotate_left; (focus assumption); simp only [Act.put, List.setIfInBounds_toArray, List.set_cons_zero, List.set_cons_succ]) | (refine Txt.tl_rowN (n := 32) (ty := 35) (by rfl) (by rfl) (by rfl) RY.out (by kernel_rfl) (by rw [List.length_map]; exact HYl.out) ?_; simp only [Act.put, List.setIfInBounds_toArray, List.set_cons_zero, List.set_cons_succ]) | (refine Txt.tl_rowN (n := 32) (ty := 35) (by rfl) (by rfl) (by rfl) RU.out (by kernel_rfl) (by rw [List.length_map]; exact HU.out) ?_; simp only [Act.put, List.setIfInBounds_toArray, List.set_cons_zero, List.set_cons_succ])))
          refine Txt.tl_nil ?_
          go_wp2
          go_roundw
          case rel => exact ⟨k + 1, _, L3, _, by omega, rfl, by go_num, HM.out, HN3.out, HL3.out, fun h => HU3.out (by trivial) HXu.out (of_decide_eq_false h)⟩
          case measure => simp [intOf]; omega
    · obtain rfl : n = k := by omega
      cases us with
      | true =>
        go_wp2_with (first | (go_at_call 20; refine (HMu.out _ HM.out.keep).mono ?_; rintro e w1 ⟨⟨p, rfl, k1, hp⟩⟩; have HM : Hid _ := HM.out.calm k1; have HP : Hid _ := hp; clear k1 hp; cases p) | (go_at_call 21; refine (awakeM _).mono ?_; rintro e w9 ⟨rfl, k9⟩; have HM : Hid _ := HM.out.calm k9; clear k9) | (go_at_call 22; refine (mnew _).mono ?_; rintro e w2 ⟨b, bl, bo, rfl, m2⟩; have HM : Hid _ := HM.out.add (x := muI b bl bo [] []) m2.keep (m2.get 0 rfl) (fun k hk => ⟨(m2.rng 0 _ rfl k hk).1.resolve_right (fun h => h), (m2.rng 0 _ rfl k hk).2⟩); clear m2))
        go_ret
        exact ⟨rfl, Keep.below HM.out.keep (by first | exact Nat.le_refl _ | exact Nat.le_of_eq HBi.out.symm) (fun _ h => h.elim)⟩
      | false =>
        obtain ⟨hu1, hu2⟩ := HUs.out (by trivial)
        have HU1 : Hid (∀ y ∈ L, y.u ≠ u) := hu1
        have HU2 : Hid (u ∉ O) := hu2
        clear hu1 hu2
        obtain ⟨ws, hws⟩ : ∃ l, IdL.setL (idsK L key) = l := ⟨_, rfl⟩
        have HWs : Hid (IdL.setL (idsK L key) = ws) := hws
        have HIk : Hid (∀ w1, MuAt w1 b bl bo L O → Calls Try.prog 25 #[.pointer (some ⟨b, 0, none⟩), .string key] w1 (IdsPost w1 b bl bo L O ws)) := fun w1 h1 => by
          have := mids_any w1 b bl bo L O h1 HN.out (by have := HLl.out; omega) key
          rwa [hws] at this
        clear hws
        obtain ⟨x, hx⟩ : ∃ x : Wr, x = ⟨u, HU.out, key, val⟩ := ⟨_, rfl⟩
        have HXx : Hid (x.u = u ∧ x.k = key ∧ x.v = val) := by rw [hx]; exact ⟨rfl, rfl, rfl⟩
        clear hx
        have HCx : Hid (cdW x = 0) := by
          show _ = _
          unfold cdW
          rw [HXx.out.2.1, HXx.out.2.2, if_neg (by omega)]
        have HSe : Hid (∀ w1 oa n oc, MuAt w1 b bl bo L O → At w1 oa n ws → (∀ g o, oa = some ⟨g, o, none⟩ → n ≠ 0 → ¬ mfoot b bl bo g) → Calls Try.prog 26 #[.pointer (some ⟨b, 0, none⟩), idv u, .string key, .string val, .slice oa n oc] w1 (S1Post w1 b bl bo L O x ws)) := fun w1 oa n oc h1 h2 h3 => by
          have := mset_ok w1 b bl bo L O h1 HN.out (by have := HLl.out; omega) x HCx.out (by rw [HXx.out.2.1]; unfold maxLen; omega) (by rw [HXx.out.2.2]; unfold maxLen; omega) oa n oc ws h2 h3
          rwa [HXx.out.1, HXx.out.2.1, HXx.out.2.2] at this
        go_wp2_with (first | (go_at_call 25; refine (HIk.out _ (HM.out.get 1 rfl)).mono ?_; rintro e w5 ⟨v5, rfl, m5⟩; have HM : Hid (M (fun _ => False) w w5 [blk bi (.cells (u.map bv).toArray 35), muI b bl bo L O, ids v5 ws]) := two HM.out 1 rfl m5; clear m5; obtain ⟨va, vc, ev, _⟩ := (show Ids.Own w5 v5 ws from HM.out.get 2 rfl).at; subst ev; obtain ⟨t, ht⟩ : ∃ t, ws.length = t := ⟨_, rfl⟩; rw [ht] at HM ⊢; clear ht) | ((with_reducible refine at_load 35 ?_); refine Ids.wl_load rfl rfl rfl HU.out (HM.out.range 0 rfl) ?_; simp only [Act.put, List.setIfInBounds_toArray, List.set_cons_zero, List.set_cons_succ]) | (go_at_call 26; refine (HSe.out _ va t vc (HM.out.get 1 rfl) (own_idat (HM.out.get 2 rfl)) (fun g o e _ hf => HM.out.dis 1 2 _ _ rfl rfl (by decide) g hf (by rw [e]; rfl))).mono ?_; rintro e w6 ⟨rfl, L6, n6, mm6, t6⟩; have HM : Hid (M (fun _ => False) w w6 [blk bi (.cells (u.map bv).toArray 35), muI b bl bo L6 (addGs O ws), ids (.slice va t vc) ws]) := M.mto HM.out 1 rfl t6; have HN6 : Hid (L6.Nodup) := n6; have HM6 : Hid _ := mm6; clear t6 n6 mm6))
        have HL6 : Hid (L6.length ≤ 1000) := by
          show _ ≤ _
          refine Nat.le_trans (nodup_len (U := x :: L) HN6.out fun y hy => ?_) (by have := HLl.out; simp; omega)
          rw [HM6.out] at hy
          rcases hy.1 with h | h
          · exact List.mem_cons_of_mem _ h
          · rw [h]; exact List.mem_cons_self
        have HOv : Hid (x ∈ L6 ∧ ∀ y ∈ L6, y.k = x.k → y = x) := over_all (by rw [HXx.out.1]; exact HU1.out) (by rw [HXx.out.1]; exact HU2.out) (by rw [HXx.out.2.1, HWs.out]; exact HM6.out)
        have HGe : Hid (∀ w1, MuAt w1 b bl bo L6 (addGs O ws) → Calls Try.prog 28 #[.pointer (some ⟨b, 0, none⟩), .string key] w1 fun e w' => ∃ a c, e = .returned (.slice a 1 c) ∧ M (mfoot b bl bo) w1 w' [muI b bl bo L6 (addGs O ws), rS (.slice a 1 c) [val]]) := fun w1 h1 =>
          (mget_any w1 b bl bo L6 _ h1 HN6.out HL6.out key).mono fun e w' ⟨v, l, he, hM, h2, h3, _⟩ => by
            have h4 := over_get HOv.out.1 HOv.out.2 h2 h3
            rw [HXx.out.2.1, HXx.out.2.2] at h4
            rw [h4] at hM
            obtain ⟨a, c, ev, _⟩ := (show St.Own 9 1 es1 w' v [val] from hM.get 1 rfl).any
            subst ev
            exact ⟨a, c, he, hM⟩
        have HId : Hid (∀ w1, MuAt w1 b bl bo L6 (addGs O ws) → Calls Try.prog 25 #[.pointer (some ⟨b, 0, none⟩), .string key] w1 fun e w' => ∃ a c, e = .returned (.slice a 1 c) ∧ M (mfoot b bl bo) w1 w' [muI b bl bo L6 (addGs O ws), ids (.slice a 1 c) [u]]) := fun w1 h1 =>
          (mids_any w1 b bl bo L6 _ h1 HN6.out HL6.out key).mono fun e w' ⟨v, he, hM⟩ => by
            have h4 := over_ids HOv.out.1 HOv.out.2
            rw [HXx.out.1, HXx.out.2.1] at h4
            rw [h4] at hM
            obtain ⟨a, c, ev, _⟩ := (show Ids.Own w' v [u] from hM.get 1 rfl).at
            subst ev
            exact ⟨a, c, he, hM⟩
        clear HIk HSe HM6 HOv HU1 HU2 HUs HCx HXx
        --REGION15
        refine Txt.region_to (fun a a' w' => ∃ (u73 u75 u80 u82 : Value), a' = ((((((((((((((((((a.put (some 71) (.pointer (some ⟨b, 0, none⟩))).put (some 72) (.string key)).put (some 73) (u73)).put (some 74) (.string val)).put (some 75) (u75)).put (some 76) (.bool true)).put (some 77) (.bool true)).put (some 78) (.pointer (some ⟨b, 0, none⟩))).put (some 79) (.string key)).put (some 80) (u80)).put (some 81) (idv u)).put (some 82) (u82)).put (some 83) (.bool true)).put (some 84) (.bool true)).put (some 85) (.bool true)).put (some 86) (.bool true)).put (some 87) (.bool true)).put (some 8) (.bool true)) ∧ Hid (Keep (fun _ => False) w w')) ?_ ?_
        · refine wp_region_any (by kernel_rfl) ?_
          change wpAny _ _ _ _ _ _ _ (World.drew _)
          have HM : Hid _ := HM.out.drew
          refine wpAny_take (i := 0) (v := ?_) rfl (by kernel_rfl) (by kernel_rfl) (by kernel_rfl) (fun _ _ _ h => by cases h.1) (Or.inl ⟨by kernel_rfl, ?_⟩) ?_; rotate_left; (focus (intro w; go_simp; try with_reducible rfl)); simp only [Act.put, List.setIfInBounds_toArray, List.set_cons_zero, List.set_cons_succ]
          refine wpAny_take (i := 1) (v := ?_) rfl (by kernel_rfl) (by kernel_rfl) (by kernel_rfl) (fun _ _ _ h => by cases h.1) (Or.inl ⟨by kernel_rfl, ?_⟩) ?_; rotate_left; (focus (intro w; go_simp; try with_reducible rfl)); simp only [Act.put, List.setIfInBounds_toArray, List.set_cons_zero, List.set_cons_succ]
          refine wpAny_take (i := 3) (v := ?_) rfl (by kernel_rfl) (by kernel_rfl) (by kernel_rfl) (fun _ _ _ h => by cases h.1) (Or.inl ⟨by kernel_rfl, ?_⟩) ?_; rotate_left; (focus (intro w; go_simp; try with_reducible rfl)); simp only [Act.put, List.setIfInBounds_toArray, List.set_cons_zero, List.set_cons_succ]
          refine Txt.anyw [2, 4] rfl (by kernel_rfl) (by simp) (Txt.all2 ?_ ?_)
          · refine Txt.opw rfl (Txt.wanted_none rfl) ?_
            refine Txt.wp_call Try.func28 (by kernel_rfl) (by kernel_rfl) rfl (vs := #[.pointer (some ⟨b, 0, none⟩), .string key]) (by kernel_rfl) (HGe.out _ (HM.out.get 1 rfl)) ?_; rintro e w7 ⟨a7, c7, rfl, mn⟩; have HM : Hid _ := two HM.out 1 rfl mn; clear mn; refine ⟨_, rfl, ?_⟩; simp only [Act.put, List.setIfInBounds_toArray, List.set_cons_zero, List.set_cons_succ]
            refine Txt.anyw [4] rfl (by kernel_rfl) (by simp) (Txt.all1 ?_)
            refine Txt.opw rfl (Txt.wanted_none rfl) ?_
            refine wp_build_s (s := val) rfl (by kernel_rfl) ?_; have HM : Hid _ := HM.out.alloc (.cells #[.string val] 9) rfl; simp only [Act.put, List.setIfInBounds_toArray, List.set_cons_zero, List.set_cons_succ]
            refine Txt.anyw [5] rfl (by kernel_rfl) (by simp) (Txt.all1 ?_)
            refine Txt.opw rfl (Txt.wanted_none rfl) ?_
            first | (refine Txt.wp_call Try.func27 (by kernel_rfl) (by kernel_rfl) rfl (vs := #[.slice a7 1 c7, .slice (some ⟨w7.heap.size, 0, none⟩) 1 1]) (by kernel_rfl) (texts_same _ _ _ 1 _ _ [val] (St.Own.slice (show St.Own 9 1 es1 _ (.slice a7 1 c7) [val] from HM.out.get 3 rfl)).2 (at_s1 (HM.out.get 4 rfl))) ?_; rintro e w8 ⟨rfl, kn⟩; have HM : Hid _ := HM.out.calm kn; clear kn; refine ⟨_, rfl, ?_⟩; simp only [Act.put, List.setIfInBounds_toArray, List.set_cons_zero, List.set_cons_succ]) | (refine Txt.wp_call Try.func27 (by kernel_rfl) (by kernel_rfl) rfl (vs := #[.slice a7 1 c7, .slice (some ⟨(World.drew w6).heap.size, 0, none⟩) 1 1]) (by kernel_rfl) (texts_same _ _ _ 1 _ _ [val] (St.Own.slice (show St.Own 9 1 es1 _ (.slice a7 1 c7) [val] from HM.out.get 4 rfl)).2 (at_s1 (HM.out.get 3 rfl))) ?_; rintro e w8 ⟨rfl, kn⟩; have HM : Hid _ := HM.out.calm kn; clear kn; refine ⟨_, rfl, ?_⟩; simp only [Act.put, List.setIfInBounds_toArray, List.set_cons_zero, List.set_cons_succ])
            refine wpAny_take (i := 6) (v := ?_) rfl (by kernel_rfl) (by kernel_rfl) (by kernel_rfl) (fun _ _ _ h => by cases h.1) (Or.inl ⟨by kernel_rfl, ?_⟩) ?_; rotate_left; (focus (intro w; go_simp; try with_reducible rfl)); simp only [Act.put, List.setIfInBounds_toArray, List.set_cons_zero, List.set_cons_succ]
            refine wpAny_take (i := 7) (v := ?_) rfl (by kernel_rfl) (by kernel_rfl) (by kernel_rfl) (fun _ _ _ h => by cases h.1) (Or.inl ⟨by kernel_rfl, ?_⟩) ?_; rotate_left; (focus (intro w; go_simp; try with_reducible rfl)); simp only [Act.put, List.setIfInBounds_toArray, List.set_cons_zero, List.set_cons_succ]
            refine wpAny_take (i := 8) (v := ?_) rfl (by kernel_rfl) (by kernel_rfl) (by kernel_rfl) (fun _ _ _ h => by cases h.1) (Or.inl ⟨by kernel_rfl, ?_⟩) ?_; rotate_left; (focus (intro w; go_simp; try with_reducible rfl)); simp only [Act.put, List.setIfInBounds_toArray, List.set_cons_zero, List.set_cons_succ]
            refine Txt.anyw [9, 10] rfl (by kernel_rfl) (by simp) (Txt.all2 ?_ ?_)
            · (with_reducible refine Txt.opw (o := ?oo20) ?ho20 ?hw20 ?hk20); (case ho20 => exact rfl); (case hw20 => kernel_rfl)
              refine Txt.wp_call Try.func25 (by kernel_rfl) (by kernel_rfl) rfl (vs := #[.pointer (some ⟨b, 0, none⟩), .string key]) (by kernel_rfl) (HId.out _ (HM.out.get 1 rfl)) ?_; rintro e w9 ⟨a9, c9, rfl, mn⟩; have HM : Hid _ := two HM.out 1 rfl mn; clear mn; refine ⟨_, rfl, ?_⟩; simp only [Act.put, List.setIfInBounds_toArray, List.set_cons_zero, List.set_cons_succ]
              refine Txt.anyw [10] rfl (by kernel_rfl) (by simp) (Txt.all1 ?_)
              (with_reducible refine Txt.opw (o := ?oo23) ?ho23 ?hw23 ?hk23); (case ho23 => exact rfl); (case hw23 => kernel_rfl)
              refine Txt.wp_ldN (n := 32) (ty := 35) (b := bi) (i := 0) rfl (by kernel_rfl) (HM.out.range 0 rfl) (by kernel_rfl) (by rw [List.length_map]; exact HU.out) ?_; simp only [Act.put, List.setIfInBounds_toArray, List.set_cons_zero, List.set_cons_succ]
              refine Txt.anyw [11] rfl (by kernel_rfl) (by simp) (Txt.all1 ?_)
              (with_reducible refine Txt.opw (o := ?oo26) ?ho26 ?hw26 ?hk26); (case ho26 => exact rfl); (case hw26 => kernel_rfl)
              refine Ids.wp_build (l := u) rfl HU.out (by kernel_rfl) ?_; have HM : Hid _ := HM.out.alloc (.cells (u.map bv).toArray 35) rfl; simp only [Act.put, List.setIfInBounds_toArray, List.set_cons_zero, List.set_cons_succ]
              refine Txt.anyw [12] rfl (by kernel_rfl) (by simp) (Txt.all1 ?_)
              (with_reducible refine Txt.opw (o := ?oo29) ?ho29 ?hw29 ?hk29); (case ho29 => exact rfl); (case hw29 => kernel_rfl)
              first | (refine Txt.wp_call Try.func29 (by kernel_rfl) (by kernel_rfl) rfl (vs := #[.slice a9 1 c9, .slice (some ⟨w9.heap.size, 0, none⟩) 1 1]) (by kernel_rfl) (same_any _ _ _ 1 1 _ _ [u] [u] (own_idat (HM.out.get 5 rfl)) (at_i1 HU.out (HM.out.get 6 rfl))) ?_; rintro e w10 ⟨rfl, kn⟩; have HM : Hid _ := HM.out.calm kn; clear kn; rw [decide_eq_true rfl]; refine ⟨_, rfl, ?_⟩; simp only [Act.put, List.setIfInBounds_toArray, List.set_cons_zero, List.set_cons_succ]) | (refine Txt.wp_call Try.func29 (by kernel_rfl) (by kernel_rfl) rfl (vs := #[.slice a9 1 c9, .slice (some ⟨w8.heap.size, 0, none⟩) 1 1]) (by kernel_rfl) (same_any _ _ _ 1 1 _ _ [u] [u] (own_idat (HM.out.get 6 rfl)) (at_i1 HU.out (HM.out.get 5 rfl))) ?_; rintro e w10 ⟨rfl, kn⟩; have HM : Hid _ := HM.out.calm kn; clear kn; rw [decide_eq_true rfl]; refine ⟨_, rfl, ?_⟩; simp only [Act.put, List.setIfInBounds_toArray, List.set_cons_zero, List.set_cons_succ])
              refine wpAny_take (i := 13) (v := ?_) rfl (by kernel_rfl) (by kernel_rfl) (by kernel_rfl) (fun _ _ _ h => by cases h.1) (Or.inl ⟨by kernel_rfl, ?_⟩) ?_; rotate_left; (focus (intro w; go_simp; try with_reducible rfl)); simp only [Act.put, List.setIfInBounds_toArray, List.set_cons_zero, List.set_cons_succ]
              refine wpAny_take (i := 14) (v := ?_) rfl (by kernel_rfl) (by kernel_rfl) (by kernel_rfl) (fun _ _ _ h => by cases h.1) (Or.inl ⟨by kernel_rfl, ?_⟩) ?_; rotate_left; (focus (intro w; go_simp; try with_reducible rfl)); simp only [Act.put, List.setIfInBounds_toArray, List.set_cons_zero, List.set_cons_succ]
              refine Txt.anyw [15] rfl (by kernel_rfl) (by simp) (Txt.all1 ?_)
              (with_reducible refine Txt.opw (o := ?oo34) ?ho34 ?hw34 ?hk34); (case ho34 => exact rfl); (case hw34 => kernel_rfl)
              refine Txt.wp_call Try.func21 (by kernel_rfl) (by kernel_rfl) rfl (vs := #[]) (by kernel_rfl) (HUr.out _) ?_; rintro e w11 ⟨rfl, kn⟩; have HM : Hid _ := HM.out.calm kn; clear kn; refine ⟨_, rfl, ?_⟩; simp only [Act.put, List.setIfInBounds_toArray, List.set_cons_zero, List.set_cons_succ]
              refine wpAny_take (i := 16) (v := ?_) rfl (by kernel_rfl) (by kernel_rfl) (by kernel_rfl) (fun _ _ _ h => by cases h.1) (Or.inl ⟨by kernel_rfl, ?_⟩) ?_; rotate_left; (focus (intro w; go_simp; try with_reducible rfl)); simp only [Act.put, List.setIfInBounds_toArray, List.set_cons_zero, List.set_cons_succ]
              refine wpAny_take (i := 17) (v := ?_) rfl (by kernel_rfl) (by kernel_rfl) (by kernel_rfl) (fun _ _ _ h => by cases h.1) (Or.inl ⟨by kernel_rfl, ?_⟩) ?_; rotate_left; (focus (intro w; go_simp; try with_reducible rfl)); simp only [Act.put, List.setIfInBounds_toArray, List.set_cons_zero, List.set_cons_succ]
              refine wpAny_done (by kernel_rfl) ?_ _
              refine ⟨rfl, ?_⟩
              exact ⟨.slice a7 1 c7, .slice (some ⟨w7.heap.size, 0, none⟩) 1 1, .slice a9 1 c9, .slice (some ⟨w9.heap.size, 0, none⟩) 1 1, (by kernel_rfl), HM.out.keep⟩
            · (with_reducible refine Txt.opw (o := ?oo41) ?ho41 ?hw41 ?hk41); (case ho41 => exact rfl); (case hw41 => kernel_rfl)
              refine Txt.wp_ldN (n := 32) (ty := 35) (b := bi) (i := 0) rfl (by kernel_rfl) (HM.out.range 0 rfl) (by kernel_rfl) (by rw [List.length_map]; exact HU.out) ?_; simp only [Act.put, List.setIfInBounds_toArray, List.set_cons_zero, List.set_cons_succ]
              refine Txt.anyw [9, 11] rfl (by kernel_rfl) (by simp) (Txt.all2 ?_ ?_)
              · (with_reducible refine Txt.opw (o := ?oo44) ?ho44 ?hw44 ?hk44); (case ho44 => exact rfl); (case hw44 => kernel_rfl)
                refine Txt.wp_call Try.func25 (by kernel_rfl) (by kernel_rfl) rfl (vs := #[.pointer (some ⟨b, 0, none⟩), .string key]) (by kernel_rfl) (HId.out _ (HM.out.get 1 rfl)) ?_; rintro e w9 ⟨a9, c9, rfl, mn⟩; have HM : Hid _ := two HM.out 1 rfl mn; clear mn; refine ⟨_, rfl, ?_⟩; simp only [Act.put, List.setIfInBounds_toArray, List.set_cons_zero, List.set_cons_succ]
                refine Txt.anyw [11] rfl (by kernel_rfl) (by simp) (Txt.all1 ?_)
                (with_reducible refine Txt.opw (o := ?oo47) ?ho47 ?hw47 ?hk47); (case ho47 => exact rfl); (case hw47 => kernel_rfl)
                refine Ids.wp_build (l := u) rfl HU.out (by kernel_rfl) ?_; have HM : Hid _ := HM.out.alloc (.cells (u.map bv).toArray 35) rfl; simp only [Act.put, List.setIfInBounds_toArray, List.set_cons_zero, List.set_cons_succ]
                refine Txt.anyw [12] rfl (by kernel_rfl) (by simp) (Txt.all1 ?_)
                (with_reducible refine Txt.opw (o := ?oo50) ?ho50 ?hw50 ?hk50); (case ho50 => exact rfl); (case hw50 => kernel_rfl)
                first | (refine Txt.wp_call Try.func29 (by kernel_rfl) (by kernel_rfl) rfl (vs := #[.slice a9 1 c9, .slice (some ⟨w9.heap.size, 0, none⟩) 1 1]) (by kernel_rfl) (same_any _ _ _ 1 1 _ _ [u] [u] (own_idat (HM.out.get 5 rfl)) (at_i1 HU.out (HM.out.get 6 rfl))) ?_; rintro e w10 ⟨rfl, kn⟩; have HM : Hid _ := HM.out.calm kn; clear kn; rw [decide_eq_true rfl]; refine ⟨_, rfl, ?_⟩; simp only [Act.put, List.setIfInBounds_toArray, List.set_cons_zero, List.set_cons_succ]) | (refine Txt.wp_call Try.func29 (by kernel_rfl) (by kernel_rfl) rfl (vs := #[.slice a9 1 c9, .slice (some ⟨w8.heap.size, 0, none⟩) 1 1]) (by kernel_rfl) (same_any _ _ _ 1 1 _ _ [u] [u] (own_idat (HM.out.get 6 rfl)) (at_i1 HU.out (HM.out.get 5 rfl))) ?_; rintro e w10 ⟨rfl, kn⟩; have HM : Hid _ := HM.out.calm kn; clear kn; rw [decide_eq_true rfl]; refine ⟨_, rfl, ?_⟩; simp only [Act.put, List.setIfInBounds_toArray, List.set_cons_zero, List.set_cons_succ])
                refine wpAny_take (i := 13) (v := ?_) rfl (by kernel_rfl) (by kernel_rfl) (by kernel_rfl) (fun _ _ _ h => by cases h.1) (Or.inl ⟨by kernel_rfl, ?_⟩) ?_; rotate_left; (focus (intro w; go_simp; try with_reducible rfl)); simp only [Act.put, List.setIfInBounds_toArray, List.set_cons_zero, List.set_cons_succ]
                refine wpAny_take (i := 14) (v := ?_) rfl (by kernel_rfl) (by kernel_rfl) (by kernel_rfl) (fun _ _ _ h => by cases h.1) (Or.inl ⟨by kernel_rfl, ?_⟩) ?_; rotate_left; (focus (intro w; go_simp; try with_reducible rfl)); simp only [Act.put, List.setIfInBounds_toArray, List.set_cons_zero, List.set_cons_succ]
                refine Txt.anyw [15] rfl (by kernel_rfl) (by simp) (Txt.all1 ?_)
                (with_reducible refine Txt.opw (o := ?oo55) ?ho55 ?hw55 ?hk55); (case ho55 => exact rfl); (case hw55 => kernel_rfl)
                refine Txt.wp_call Try.func21 (by kernel_rfl) (by kernel_rfl) rfl (vs := #[]) (by kernel_rfl) (HUr.out _) ?_; rintro e w11 ⟨rfl, kn⟩; have HM : Hid _ := HM.out.calm kn; clear kn; refine ⟨_, rfl, ?_⟩; simp only [Act.put, List.setIfInBounds_toArray, List.set_cons_zero, List.set_cons_succ]
                refine wpAny_take (i := 16) (v := ?_) rfl (by kernel_rfl) (by kernel_rfl) (by kernel_rfl) (fun _ _ _ h => by cases h.1) (Or.inl ⟨by kernel_rfl, ?_⟩) ?_; rotate_left; (focus (intro w; go_simp; try with_reducible rfl)); simp only [Act.put, List.setIfInBounds_toArray, List.set_cons_zero, List.set_cons_succ]
                refine wpAny_take (i := 17) (v := ?_) rfl (by kernel_rfl) (by kernel_rfl) (by kernel_rfl) (fun _ _ _ h => by cases h.1) (Or.inl ⟨by kernel_rfl, ?_⟩) ?_; rotate_left; (focus (intro w; go_simp; try with_reducible rfl)); simp only [Act.put, List.setIfInBounds_toArray, List.set_cons_zero, List.set_cons_succ]
                refine wpAny_done (by kernel_rfl) ?_ _
                refine ⟨rfl, ?_⟩
                exact ⟨.slice a7 1 c7, .slice (some ⟨w7.heap.size, 0, none⟩) 1 1, .slice a9 1 c9, .slice (some ⟨w9.heap.size, 0, none⟩) 1 1, (by kernel_rfl), HM.out.keep⟩
              · (with_reducible refine Txt.opw (o := ?oo62) ?ho62 ?hw62 ?hk62); (case ho62 => exact rfl); (case hw62 => kernel_rfl)
                refine Ids.wp_build (l := u) rfl HU.out (by kernel_rfl) ?_; have HM : Hid _ := HM.out.alloc (.cells (u.map bv).toArray 35) rfl; simp only [Act.put, List.setIfInBounds_toArray, List.set_cons_zero, List.set_cons_succ]
                refine Txt.anyw [9] rfl (by kernel_rfl) (by simp) (Txt.all1 ?_)
                (with_reducible refine Txt.opw (o := ?oo65) ?ho65 ?hw65 ?hk65); (case ho65 => exact rfl); (case hw65 => kernel_rfl)
                refine Txt.wp_call Try.func25 (by kernel_rfl) (by kernel_rfl) rfl (vs := #[.pointer (some ⟨b, 0, none⟩), .string key]) (by kernel_rfl) (HId.out _ (HM.out.get 1 rfl)) ?_; rintro e w9 ⟨a9, c9, rfl, mn⟩; have HM : Hid _ := two HM.out 1 rfl mn; clear mn; refine ⟨_, rfl, ?_⟩; simp only [Act.put, List.setIfInBounds_toArray, List.set_cons_zero, List.set_cons_succ]
                refine Txt.anyw [12] rfl (by kernel_rfl) (by simp) (Txt.all1 ?_)
                (with_reducible refine Txt.opw (o := ?oo68) ?ho68 ?hw68 ?hk68); (case ho68 => exact rfl); (case hw68 => kernel_rfl)
                first | (refine Txt.wp_call Try.func29 (by kernel_rfl) (by kernel_rfl) rfl (vs := #[.slice a9 1 c9, .slice (some ⟨w9.heap.size, 0, none⟩) 1 1]) (by kernel_rfl) (same_any _ _ _ 1 1 _ _ [u] [u] (own_idat (HM.out.get 5 rfl)) (at_i1 HU.out (HM.out.get 6 rfl))) ?_; rintro e w10 ⟨rfl, kn⟩; have HM : Hid _ := HM.out.calm kn; clear kn; rw [decide_eq_true rfl]; refine ⟨_, rfl, ?_⟩; simp only [Act.put, List.setIfInBounds_toArray, List.set_cons_zero, List.set_cons_succ]) | (refine Txt.wp_call Try.func29 (by kernel_rfl) (by kernel_rfl) rfl (vs := #[.slice a9 1 c9, .slice (some ⟨w8.heap.size, 0, none⟩) 1 1]) (by kernel_rfl) (same_any _ _ _ 1 1 _ _ [u] [u] (own_idat (HM.out.get 6 rfl)) (at_i1 HU.out (HM.out.get 5 rfl))) ?_; rintro e w10 ⟨rfl, kn⟩; have HM : Hid _ := HM.out.calm kn; clear kn; rw [decide_eq_true rfl]; refine ⟨_, rfl, ?_⟩; simp only [Act.put, List.setIfInBounds_toArray, List.set_cons_zero, List.set_cons_succ])
                refine wpAny_take (i := 13) (v := ?_) rfl (by kernel_rfl) (by kernel_rfl) (by kernel_rfl) (fun _ _ _ h => by cases h.1) (Or.inl ⟨by kernel_rfl, ?_⟩) ?_; rotate_left; (focus (intro w; go_simp; try with_reducible rfl)); simp only [Act.put, List.setIfInBounds_toArray, List.set_cons_zero, List.set_cons_succ]
                refine wpAny_take (i := 14) (v := ?_) rfl (by kernel_rfl) (by kernel_rfl) (by kernel_rfl) (fun _ _ _ h => by cases h.1) (Or.inl ⟨by kernel_rfl, ?_⟩) ?_; rotate_left; (focus (intro w; go_simp; try with_reducible rfl)); simp only [Act.put, List.setIfInBounds_toArray, List.set_cons_zero, List.set_cons_succ]
                refine Txt.anyw [15] rfl (by kernel_rfl) (by simp) (Txt.all1 ?_)
                (with_reducible refine Txt.opw (o := ?oo73) ?ho73 ?hw73 ?hk73); (case ho73 => exact rfl); (case hw73 => kernel_rfl)
                refine Txt.wp_call Try.func21 (by kernel_rfl) (by kernel_rfl) rfl (vs := #[]) (by kernel_rfl) (HUr.out _) ?_; rintro e w11 ⟨rfl, kn⟩; have HM : Hid _ := HM.out.calm kn; clear kn; refine ⟨_, rfl, ?_⟩; simp only [Act.put, List.setIfInBounds_toArray, List.set_cons_zero, List.set_cons_succ]
                refine wpAny_take (i := 16) (v := ?_) rfl (by kernel_rfl) (by kernel_rfl) (by kernel_rfl) (fun _ _ _ h => by cases h.1) (Or.inl ⟨by kernel_rfl, ?_⟩) ?_; rotate_left; (focus (intro w; go_simp; try with_reducible rfl)); simp only [Act.put, List.setIfInBounds_toArray, List.set_cons_zero, List.set_cons_succ]
                refine wpAny_take (i := 17) (v := ?_) rfl (by kernel_rfl) (by kernel_rfl) (by kernel_rfl) (fun _ _ _ h => by cases h.1) (Or.inl ⟨by kernel_rfl, ?_⟩) ?_; rotate_left; (focus (intro w; go_simp; try with_reducible rfl)); simp only [Act.put, List.setIfInBounds_toArray, List.set_cons_zero, List.set_cons_succ]
                refine wpAny_done (by kernel_rfl) ?_ _
                refine ⟨rfl, ?_⟩
                exact ⟨.slice a7 1 c7, .slice (some ⟨w7.heap.size, 0, none⟩) 1 1, .slice a9 1 c9, .slice (some ⟨w8.heap.size, 0, none⟩) 1 1, (by kernel_rfl), HM.out.keep⟩
          · refine Txt.opw rfl (Txt.wanted_none rfl) ?_
            refine wp_build_s (s := val) rfl (by kernel_rfl) ?_; have HM : Hid _ := HM.out.alloc (.cells #[.string val] 9) rfl; simp only [Act.put, List.setIfInBounds_toArray, List.set_cons_zero, List.set_cons_succ]
            refine Txt.anyw [2] rfl (by kernel_rfl) (by simp) (Txt.all1 ?_)
            refine Txt.opw rfl (Txt.wanted_none rfl) ?_
            refine Txt.wp_call Try.func28 (by kernel_rfl) (by kernel_rfl) rfl (vs := #[.pointer (some ⟨b, 0, none⟩), .string key]) (by kernel_rfl) (HGe.out _ (HM.out.get 1 rfl)) ?_; rintro e w7 ⟨a7, c7, rfl, mn⟩; have HM : Hid _ := two HM.out 1 rfl mn; clear mn; refine ⟨_, rfl, ?_⟩; simp only [Act.put, List.setIfInBounds_toArray, List.set_cons_zero, List.set_cons_succ]
            refine Txt.anyw [5] rfl (by kernel_rfl) (by simp) (Txt.all1 ?_)
            refine Txt.opw rfl (Txt.wanted_none rfl) ?_
            first | (refine Txt.wp_call Try.func27 (by kernel_rfl) (by kernel_rfl) rfl (vs := #[.slice a7 1 c7, .slice (some ⟨w7.heap.size, 0, none⟩) 1 1]) (by kernel_rfl) (texts_same _ _ _ 1 _ _ [val] (St.Own.slice (show St.Own 9 1 es1 _ (.slice a7 1 c7) [val] from HM.out.get 3 rfl)).2 (at_s1 (HM.out.get 4 rfl))) ?_; rintro e w8 ⟨rfl, kn⟩; have HM : Hid _ := HM.out.calm kn; clear kn; refine ⟨_, rfl, ?_⟩; simp only [Act.put, List.setIfInBounds_toArray, List.set_cons_zero, List.set_cons_succ]) | (refine Txt.wp_call Try.func27 (by kernel_rfl) (by kernel_rfl) rfl (vs := #[.slice a7 1 c7, .slice (some ⟨(World.drew w6).heap.size, 0, none⟩) 1 1]) (by kernel_rfl) (texts_same _ _ _ 1 _ _ [val] (St.Own.slice (show St.Own 9 1 es1 _ (.slice a7 1 c7) [val] from HM.out.get 4 rfl)).2 (at_s1 (HM.out.get 3 rfl))) ?_; rintro e w8 ⟨rfl, kn⟩; have HM : Hid _ := HM.out.calm kn; clear kn; refine ⟨_, rfl, ?_⟩; simp only [Act.put, List.setIfInBounds_toArray, List.set_cons_zero, List.set_cons_succ])
            refine wpAny_take (i := 6) (v := ?_) rfl (by kernel_rfl) (by kernel_rfl) (by kernel_rfl) (fun _ _ _ h => by cases h.1) (Or.inl ⟨by kernel_rfl, ?_⟩) ?_; rotate_left; (focus (intro w; go_simp; try with_reducible rfl)); simp only [Act.put, List.setIfInBounds_toArray, List.set_cons_zero, List.set_cons_succ]
            refine wpAny_take (i := 7) (v := ?_) rfl (by kernel_rfl) (by kernel_rfl) (by kernel_rfl) (fun _ _ _ h => by cases h.1) (Or.inl ⟨by kernel_rfl, ?_⟩) ?_; rotate_left; (focus (intro w; go_simp; try with_reducible rfl)); simp only [Act.put, List.setIfInBounds_toArray, List.set_cons_zero, List.set_cons_succ]
            refine wpAny_take (i := 8) (v := ?_) rfl (by kernel_rfl) (by kernel_rfl) (by kernel_rfl) (fun _ _ _ h => by cases h.1) (Or.inl ⟨by kernel_rfl, ?_⟩) ?_; rotate_left; (focus (intro w; go_simp; try with_reducible rfl)); simp only [Act.put, List.setIfInBounds_toArray, List.set_cons_zero, List.set_cons_succ]
            refine Txt.anyw [9, 10] rfl (by kernel_rfl) (by simp) (Txt.all2 ?_ ?_)
            · (with_reducible refine Txt.opw (o := ?oo92) ?ho92 ?hw92 ?hk92); (case ho92 => exact rfl); (case hw92 => kernel_rfl)
              refine Txt.wp_call Try.func25 (by kernel_rfl) (by kernel_rfl) rfl (vs := #[.pointer (some ⟨b, 0, none⟩), .string key]) (by kernel_rfl) (HId.out _ (HM.out.get 1 rfl)) ?_; rintro e w9 ⟨a9, c9, rfl, mn⟩; have HM : Hid _ := two HM.out 1 rfl mn; clear mn; refine ⟨_, rfl, ?_⟩; simp only [Act.put, List.setIfInBounds_toArray, List.set_cons_zero, List.set_cons_succ]
              refine Txt.anyw [10] rfl (by kernel_rfl) (by simp) (Txt.all1 ?_)
              (with_reducible refine Txt.opw (o := ?oo95) ?ho95 ?hw95 ?hk95); (case ho95 => exact rfl); (case hw95 => kernel_rfl)
              refine Txt.wp_ldN (n := 32) (ty := 35) (b := bi) (i := 0) rfl (by kernel_rfl) (HM.out.range 0 rfl) (by kernel_rfl) (by rw [List.length_map]; exact HU.out) ?_; simp only [Act.put, List.setIfInBounds_toArray, List.set_cons_zero, List.set_cons_succ]
              refine Txt.anyw [11] rfl (by kernel_rfl) (by simp) (Txt.all1 ?_)
              (with_reducible refine Txt.opw (o := ?oo98) ?ho98 ?hw98 ?hk98); (case ho98 => exact rfl); (case hw98 => kernel_rfl)
              refine Ids.wp_build (l := u) rfl HU.out (by kernel_rfl) ?_; have HM : Hid _ := HM.out.alloc (.cells (u.map bv).toArray 35) rfl; simp only [Act.put, List.setIfInBounds_toArray, List.set_cons_zero, List.set_cons_succ]
              refine Txt.anyw [12] rfl (by kernel_rfl) (by simp) (Txt.all1 ?_)
              (with_reducible refine Txt.opw (o := ?oo101) ?ho101 ?hw101 ?hk101); (case ho101 => exact rfl); (case hw101 => kernel_rfl)
              first | (refine Txt.wp_call Try.func29 (by kernel_rfl) (by kernel_rfl) rfl (vs := #[.slice a9 1 c9, .slice (some ⟨w9.heap.size, 0, none⟩) 1 1]) (by kernel_rfl) (same_any _ _ _ 1 1 _ _ [u] [u] (own_idat (HM.out.get 5 rfl)) (at_i1 HU.out (HM.out.get 6 rfl))) ?_; rintro e w10 ⟨rfl, kn⟩; have HM : Hid _ := HM.out.calm kn; clear kn; rw [decide_eq_true rfl]; refine ⟨_, rfl, ?_⟩; simp only [Act.put, List.setIfInBounds_toArray, List.set_cons_zero, List.set_cons_succ]) | (refine Txt.wp_call Try.func29 (by kernel_rfl) (by kernel_rfl) rfl (vs := #[.slice a9 1 c9, .slice (some ⟨w8.heap.size, 0, none⟩) 1 1]) (by kernel_rfl) (same_any _ _ _ 1 1 _ _ [u] [u] (own_idat (HM.out.get 6 rfl)) (at_i1 HU.out (HM.out.get 5 rfl))) ?_; rintro e w10 ⟨rfl, kn⟩; have HM : Hid _ := HM.out.calm kn; clear kn; rw [decide_eq_true rfl]; refine ⟨_, rfl, ?_⟩; simp only [Act.put, List.setIfInBounds_toArray, List.set_cons_zero, List.set_cons_succ])
              refine wpAny_take (i := 13) (v := ?_) rfl (by kernel_rfl) (by kernel_rfl) (by kernel_rfl) (fun _ _ _ h => by cases h.1) (Or.inl ⟨by kernel_rfl, ?_⟩) ?_; rotate_left; (focus (intro w; go_simp; try with_reducible rfl)); simp only [Act.put, List.setIfInBounds_toArray, List.set_cons_zero, List.set_cons_succ]
              refine wpAny_take (i := 14) (v := ?_) rfl (by kernel_rfl) (by kernel_rfl) (by kernel_rfl) (fun _ _ _ h => by cases h.1) (Or.inl ⟨by kernel_rfl, ?_⟩) ?_; rotate_left; (focus (intro w; go_simp; try with_reducible rfl)); simp only [Act.put, List.setIfInBounds_toArray, List.set_cons_zero, List.set_cons_succ]
              refine Txt.anyw [15] rfl (by kernel_rfl) (by simp) (Txt.all1 ?_)
              (with_reducible refine Txt.opw (o := ?oo106) ?ho106 ?hw106 ?hk106); (case ho106 => exact rfl); (case hw106 => kernel_rfl)
              refine Txt.wp_call Try.func21 (by kernel_rfl) (by kernel_rfl) rfl (vs := #[]) (by kernel_rfl) (HUr.out _) ?_; rintro e w11 ⟨rfl, kn⟩; have HM : Hid _ := HM.out.calm kn; clear kn; refine ⟨_, rfl, ?_⟩; simp only [Act.put, List.setIfInBounds_toArray, List.set_cons_zero, List.set_cons_succ]
              refine wpAny_take (i := 16) (v := ?_) rfl (by kernel_rfl) (by kernel_rfl) (by kernel_rfl) (fun _ _ _ h => by cases h.1) (Or.inl ⟨by kernel_rfl, ?_⟩) ?_; rotate_left; (focus (intro w; go_simp; try with_reducible rfl)); simp only [Act.put, List.setIfInBounds_toArray, List.set_cons_zero, List.set_cons_succ]
              refine wpAny_take (i := 17) (v := ?_) rfl (by kernel_rfl) (by kernel_rfl) (by kernel_rfl) (fun _ _ _ h => by cases h.1) (Or.inl ⟨by kernel_rfl, ?_⟩) ?_; rotate_left; (focus (intro w; go_simp; try with_reducible rfl)); simp only [Act.put, List.setIfInBounds_toArray, List.set_cons_zero, List.set_cons_succ]
              refine wpAny_done (by kernel_rfl) ?_ _
              refine ⟨rfl, ?_⟩
              exact ⟨.slice a7 1 c7, .slice (some ⟨(World.drew w6).heap.size, 0, none⟩) 1 1, .slice a9 1 c9, .slice (some ⟨w9.heap.size, 0, none⟩) 1 1, (by kernel_rfl), HM.out.keep⟩
            · (with_reducible refine Txt.opw (o := ?oo113) ?ho113 ?hw113 ?hk113); (case ho113 => exact rfl); (case hw113 => kernel_rfl)
              refine Txt.wp_ldN (n := 32) (ty := 35) (b := bi) (i := 0) rfl (by kernel_rfl) (HM.out.range 0 rfl) (by kernel_rfl) (by rw [List.length_map]; exact HU.out) ?_; simp only [Act.put, List.setIfInBounds_toArray, List.set_cons_zero, List.set_cons_succ]
              refine Txt.anyw [9, 11] rfl (by kernel_rfl) (by simp) (Txt.all2 ?_ ?_)
              · (with_reducible refine Txt.opw (o := ?oo116) ?ho116 ?hw116 ?hk116); (case ho116 => exact rfl); (case hw116 => kernel_rfl)
                refine Txt.wp_call Try.func25 (by kernel_rfl) (by kernel_rfl) rfl (vs := #[.pointer (some ⟨b, 0, none⟩), .string key]) (by kernel_rfl) (HId.out _ (HM.out.get 1 rfl)) ?_; rintro e w9 ⟨a9, c9, rfl, mn⟩; have HM : Hid _ := two HM.out 1 rfl mn; clear mn; refine ⟨_, rfl, ?_⟩; simp only [Act.put, List.setIfInBounds_toArray, List.set_cons_zero, List.set_cons_succ]
                refine Txt.anyw [11] rfl (by kernel_rfl) (by simp) (Txt.all1 ?_)
                (with_reducible refine Txt.opw (o := ?oo119) ?ho119 ?hw119 ?hk119); (case ho119 => exact rfl); (case hw119 => kernel_rfl)
                refine Ids.wp_build (l := u) rfl HU.out (by kernel_rfl) ?_; have HM : Hid _ := HM.out.alloc (.cells (u.map bv).toArray 35) rfl; simp only [Act.put, List.setIfInBounds_toArray, List.set_cons_zero, List.set_cons_succ]
                refine Txt.anyw [12] rfl (by kernel_rfl) (by simp) (Txt.all1 ?_)
                (with_reducible refine Txt.opw (o := ?oo122) ?ho122 ?hw122 ?hk122); (case ho122 => exact rfl); (case hw122 => kernel_rfl)
                first | (refine Txt.wp_call Try.func29 (by kernel_rfl) (by kernel_rfl) rfl (vs := #[.slice a9 1 c9, .slice (some ⟨w9.heap.size, 0, none⟩) 1 1]) (by kernel_rfl) (same_any _ _ _ 1 1 _ _ [u] [u] (own_idat (HM.out.get 5 rfl)) (at_i1 HU.out (HM.out.get 6 rfl))) ?_; rintro e w10 ⟨rfl, kn⟩; have HM : Hid _ := HM.out.calm kn; clear kn; rw [decide_eq_true rfl]; refine ⟨_, rfl, ?_⟩; simp only [Act.put, List.setIfInBounds_toArray, List.set_cons_zero, List.set_cons_succ]) | (refine Txt.wp_call Try.func29 (by kernel_rfl) (by kernel_rfl) rfl (vs := #[.slice a9 1 c9, .slice (some ⟨w8.heap.size, 0, none⟩) 1 1]) (by kernel_rfl) (same_any _ _ _ 1 1 _ _ [u] [u] (own_idat (HM.out.get 6 rfl)) (at_i1 HU.out (HM.out.get 5 rfl))) ?_; rintro e w10 ⟨rfl, kn⟩; have HM : Hid _ := HM.out.calm kn; clear kn; rw [decide_eq_true rfl]; refine ⟨_, rfl, ?_⟩; simp only [Act.put, List.setIfInBounds_toArray, List.set_cons_zero, List.set_cons_succ])
                refine wpAny_take (i := 13) (v := ?_) rfl (by kernel_rfl) (by kernel_rfl) (by kernel_rfl) (fun _ _ _ h => by cases h.1) (Or.inl ⟨by kernel_rfl, ?_⟩) ?_; rotate_left; (focus (intro w; go_simp; try with_reducible rfl)); simp only [Act.put, List.setIfInBounds_toArray, List.set_cons_zero, List.set_cons_succ]
                refine wpAny_take (i := 14) (v := ?_) rfl (by kernel_rfl) (by kernel_rfl) (by kernel_rfl) (fun _ _ _ h => by cases h.1) (Or.inl ⟨by kernel_rfl, ?_⟩) ?_; rotate_left; (focus (intro w; go_simp; try with_reducible rfl)); simp only [Act.put, List.setIfInBounds_toArray, List.set_cons_zero, List.set_cons_succ]
                refine Txt.anyw [15] rfl (by kernel_rfl) (by simp) (Txt.all1 ?_)
                (with_reducible refine Txt.opw (o := ?oo127) ?ho127 ?hw127 ?hk127); (case ho127 => exact rfl); (case hw127 => kernel_rfl)
                refine Txt.wp_call Try.func21 (by kernel_rfl) (by kernel_rfl) rfl (vs := #[]) (by kernel_rfl) (HUr.out _) ?_; rintro e w11 ⟨rfl, kn⟩; have HM : Hid _ := HM.out.calm kn; clear kn; refine ⟨_, rfl, ?_⟩; simp only [Act.put, List.setIfInBounds_toArray, List.set_cons_zero, List.set_cons_succ]
                refine wpAny_take (i := 16) (v := ?_) rfl (by kernel_rfl) (by kernel_rfl) (by kernel_rfl) (fun _ _ _ h => by cases h.1) (Or.inl ⟨by kernel_rfl, ?_⟩) ?_; rotate_left; (focus (intro w; go_simp; try with_reducible rfl)); simp only [Act.put, List.setIfInBounds_toArray, List.set_cons_zero, List.set_cons_succ]
                refine wpAny_take (i := 17) (v := ?_) rfl (by kernel_rfl) (by kernel_rfl) (by kernel_rfl) (fun _ _ _ h => by cases h.1) (Or.inl ⟨by kernel_rfl, ?_⟩) ?_; rotate_left; (focus (intro w; go_simp; try with_reducible rfl)); simp only [Act.put, List.setIfInBounds_toArray, List.set_cons_zero, List.set_cons_succ]
                refine wpAny_done (by kernel_rfl) ?_ _
                refine ⟨rfl, ?_⟩
                exact ⟨.slice a7 1 c7, .slice (some ⟨(World.drew w6).heap.size, 0, none⟩) 1 1, .slice a9 1 c9, .slice (some ⟨w9.heap.size, 0, none⟩) 1 1, (by kernel_rfl), HM.out.keep⟩
              · (with_reducible refine Txt.opw (o := ?oo134) ?ho134 ?hw134 ?hk134); (case ho134 => exact rfl); (case hw134 => kernel_rfl)
                refine Ids.wp_build (l := u) rfl HU.out (by kernel_rfl) ?_; have HM : Hid _ := HM.out.alloc (.cells (u.map bv).toArray 35) rfl; simp only [Act.put, List.setIfInBounds_toArray, List.set_cons_zero, List.set_cons_succ]
                refine Txt.anyw [9] rfl (by kernel_rfl) (by simp) (Txt.all1 ?_)
                (with_reducible refine Txt.opw (o := ?oo137) ?ho137 ?hw137 ?hk137); (case ho137 => exact rfl); (case hw137 => kernel_rfl)
                refine Txt.wp_call Try.func25 (by kernel_rfl) (by kernel_rfl) rfl (vs := #[.pointer (some ⟨b, 0, none⟩), .string key]) (by kernel_rfl) (HId.out _ (HM.out.get 1 rfl)) ?_; rintro e w9 ⟨a9, c9, rfl, mn⟩; have HM : Hid _ := two HM.out 1 rfl mn; clear mn; refine ⟨_, rfl, ?_⟩; simp only [Act.put, List.setIfInBounds_toArray, List.set_cons_zero, List.set_cons_succ]
                refine Txt.anyw [12] rfl (by kernel_rfl) (by simp) (Txt.all1 ?_)
                (with_reducible refine Txt.opw (o := ?oo140) ?ho140 ?hw140 ?hk140); (case ho140 => exact rfl); (case hw140 => kernel_rfl)
                first | (refine Txt.wp_call Try.func29 (by kernel_rfl) (by kernel_rfl) rfl (vs := #[.slice a9 1 c9, .slice (some ⟨w9.heap.size, 0, none⟩) 1 1]) (by kernel_rfl) (same_any _ _ _ 1 1 _ _ [u] [u] (own_idat (HM.out.get 5 rfl)) (at_i1 HU.out (HM.out.get 6 rfl))) ?_; rintro e w10 ⟨rfl, kn⟩; have HM : Hid _ := HM.out.calm kn; clear kn; rw [decide_eq_true rfl]; refine ⟨_, rfl, ?_⟩; simp only [Act.put, List.setIfInBounds_toArray, List.set_cons_zero, List.set_cons_succ]) | (refine Txt.wp_call Try.func29 (by kernel_rfl) (by kernel_rfl) rfl (vs := #[.slice a9 1 c9, .slice (some ⟨w8.heap.size, 0, none⟩) 1 1]) (by kernel_rfl) (same_any _ _ _ 1 1 _ _ [u] [u] (own_idat (HM.out.get 6 rfl)) (at_i1 HU.out (HM.out.get 5 rfl))) ?_; rintro e w10 ⟨rfl, kn⟩; have HM : Hid _ := HM.out.calm kn; clear kn; rw [decide_eq_true rfl]; refine ⟨_, rfl, ?_⟩; simp only [Act.put, List.setIfInBounds_toArray, List.set_cons_zero, List.set_cons_succ])
                refine wpAny_take (i := 13) (v := ?_) rfl (by kernel_rfl) (by kernel_rfl) (by kernel_rfl) (fun _ _ _ h => by cases h.1) (Or.inl ⟨by kernel_rfl, ?_⟩) ?_; rotate_left; (focus (intro w; go_simp; try with_reducible rfl)); simp only [Act.put, List.setIfInBounds_toArray, List.set_cons_zero, List.set_cons_succ]
                refine wpAny_take (i := 14) (v := ?_) rfl (by kernel_rfl) (by kernel_rfl) (by kernel_rfl) (fun _ _ _ h => by cases h.1) (Or.inl ⟨by kernel_rfl, ?_⟩) ?_; rotate_left; (focus (intro w; go_simp; try with_reducible rfl)); simp only [Act.put, List.setIfInBounds_toArray, List.set_cons_zero, List.set_cons_succ]
                refine Txt.anyw [15] rfl (by kernel_rfl) (by simp) (Txt.all1 ?_)
                (with_reducible refine Txt.opw (o := ?oo145) ?ho145 ?hw145 ?hk145); (case ho145 => exact rfl); (case hw145 => kernel_rfl)
                refine Txt.wp_call Try.func21 (by kernel_rfl) (by kernel_rfl) rfl (vs := #[]) (by kernel_rfl) (HUr.out _) ?_; rintro e w11 ⟨rfl, kn⟩; have HM : Hid _ := HM.out.calm kn; clear kn; refine ⟨_, rfl, ?_⟩; simp only [Act.put, List.setIfInBounds_toArray, List.set_cons_zero, List.set_cons_succ]
                refine wpAny_take (i := 16) (v := ?_) rfl (by kernel_rfl) (by kernel_rfl) (by kernel_rfl) (fun _ _ _ h => by cases h.1) (Or.inl ⟨by kernel_rfl, ?_⟩) ?_; rotate_left; (focus (intro w; go_simp; try with_reducible rfl)); simp only [Act.put, List.setIfInBounds_toArray, List.set_cons_zero, List.set_cons_succ]
                refine wpAny_take (i := 17) (v := ?_) rfl (by kernel_rfl) (by kernel_rfl) (by kernel_rfl) (fun _ _ _ h => by cases h.1) (Or.inl ⟨by kernel_rfl, ?_⟩) ?_; rotate_left; (focus (intro w; go_simp; try with_reducible rfl)); simp only [Act.put, List.setIfInBounds_toArray, List.set_cons_zero, List.set_cons_succ]
                refine wpAny_done (by kernel_rfl) ?_ _
                refine ⟨rfl, ?_⟩
                exact ⟨.slice a7 1 c7, .slice (some ⟨(World.drew w6).heap.size, 0, none⟩) 1 1, .slice a9 1 c9, .slice (some ⟨w8.heap.size, 0, none⟩) 1 1, (by kernel_rfl), HM.out.keep⟩
        rintro a' w' ⟨u73, u75, u80, u82, rfl, hK⟩
        clear HM
        have HK : Hid _ := hK.out
        clear hK
        simp only [Act.put, List.setIfInBounds_toArray, List.set_cons_zero, List.set_cons_succ]
        go_wp2
        go_ret
        exact ⟨rfl, Keep.below HK.out (by first | exact Nat.le_refl _ | exact Nat.le_of_eq HBi.out.symm) (fun _ h => h.elim)⟩
        --END15
set_option maxRecDepth 100000 in
theorem own : ownKnob Try.prog.godebug = none := by kernel_rfl
set_option maxRecDepth 100000 in
theorem laidOut : laidOutB Try.prog = true := by kernel_rfl
set_option maxRecDepth 100000 in
theorem contract (H : Type) (enc : TypeId × Value → H) (W : World) (base : Nat) (args : Array Value) (ds gs : List (DataW H)) (before : List MemPlace)
    (hval : ∀ (j : Nat) t v, Try.f4.params[j]? = some t → args[j]? = some v → Value.okWide Try.prog W .any base t v)
    (hW : DataW.Whole enc Try.prog Try.f4.params.toList Rows.multiOverSpec.vars false W args.toList ds gs before) :
    Calls Try.prog 4 args W fun e W' => ∃ v, e = .returned v ∧ Rows.multiOverSpec.post enc Try.prog Try.f4 false true false false W args v W' := by
  have hW' := hW
  obtain ⟨p, q, hA0, hV, rfl, hfz, hnd⟩ := hW
  have hA : DataW.TrodAll enc Try.prog W 0 (fun _ => true) true Try.f4.params.toList args.toList ds p := hA0
  rw [Try.params4] at hA hval
  obtain ⟨rfl, rfl⟩ := trodVars_none hV
  obtain ⟨v0, vs0, d0, ds0, p0, q0, hargs, rfl, rfl, h0, r0⟩ := trodAll_cons hA
  obtain ⟨v1, vs1, d1, ds1, p1, q1, rfl, rfl, rfl, h1, r1⟩ := trodAll_cons r0
  obtain ⟨v2, vs2, d2, ds2, p2, q2, rfl, rfl, rfl, h2, r2⟩ := trodAll_cons r1
  obtain ⟨v3, vs3, d3, ds3, p3, q3, rfl, rfl, rfl, h3, r3⟩ := trodAll_cons r2
  obtain ⟨rfl, rfl, rfl⟩ := trodAll_nil r3
  obtain rfl : args = #[v0, v1, v2, v3] := by cases args; simp_all
  obtain ⟨s, rfl, hs, _⟩ := Opn.open_sl Try.underlying45 rdQl (hval 0 _ v0 rfl rfl) h0
  obtain ⟨a, rfl, la⟩ := Opn.open_id (hval 1 _ v1 rfl rfl) h1
  obtain ⟨k, rfl, rfl, rfl, hk⟩ := open_string Try.underlying9 (hval 2 _ v2 rfl rfl) h2
  obtain ⟨v, rfl, rfl, rfl, hv⟩ := open_string Try.underlying9 (hval 3 _ v3 rfl rfl) h3
  refine (walk s a la k v hk hv W hs).mono fun e W' ⟨he, bel⟩ => ?_
  subst he
  exact ⟨_, rfl, Opn.law_post laidOut (by kernel_rfl) rfl Try.underlying4 rfl rfl hW' bel⟩
set_option maxRecDepth 100000 in
theorem lifted (os : Os) (started : os.Started) (H : Type) (enc : TypeId × Value → H) :
    ReturnsInHanded {} Try.checked os 4 .any (Rows.multiOverSpec.pre6 enc Try.prog Try.f4 Rows.multiOverRow.domain false) (Rows.multiOverSpec.post enc Try.prog Try.f4 false true false false) := by
  refine returnsInHanded_of_change (C := Try.checked) own started (by kernel_rfl) Try.func4
    (ChangeSpec.witness6 (enc := enc) (C := Try.checked) false ⟨#[], #[.slice none 0 0, idv (List.replicate 32 0), .string ByteArray.empty, .string ByteArray.empty], []⟩ 8 (by kernel_rfl) (by kernel_rfl) (by kernel_rfl) (by kernel_rfl)) ?_
  intro W base args ds gs before hval0 hW hcnd _
  exact contract H enc W base args ds gs before hval0 hW
theorem over : Rows.multiOverRow.holds Try.pinned (OpenSpec.ofChange Rows.multiOverSpec) :=
  OpenClaim.holds_of_wide 4 Try.f4 rfl rfl rfl rfl rfl rfl rfl ⟨rfl, rfl, rfl, rfl, rfl⟩ rfl rfl rfl rfl rfl (by kernel_rfl) Try.func4 (by kernel_rfl)
    (of_decide_eq_true (by kernel_rfl)) (by unfold Func.isWrapper; first | (rw [if_pos (by decide +kernel)]; kernel_rfl) | (rw [if_neg (by decide +kernel)]; exact ⟨rfl, rfl⟩))
    (fun os started H enc _ => lifted os started H enc)
theorem proved : Rows.MultiOverSaid := over
end MultiOver
end Go.Proofs.Ytgpimeobkacniaa
