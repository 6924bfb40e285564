/-
  'petrellaw24.MultiOrder': the order plays no part: the same writings from the last to the first, some of them twice, put and loaded in between. For every input.
-/
import Derived.Test.YtgpimeobkacniaaGMd
import Derived.Test.YtgpimeobkacniaaOpnU
set_option linter.unusedVariables false
set_option linter.unusedSimpArgs false
namespace Go.Proofs.Ytgpimeobkacniaa
open Go.RowKit Go.ChangeShapes Go.WideShapes Go.ChangeAt
namespace MultiOrder
open Oct Ids Mu
open Sq (at_load at_alloc at_store own_idat two widen)
open Mem (M It blk ids rows)
set_option maxRecDepth 100000 in
set_option maxHeartbeats 16000000 in
theorem walk (s : Opn.Sl AQ) (ts : Opn.Sl Bool) (q : Int) (w : World) (hs : Opn.SlAt 35 layQ factQ w s) (ht : Opn.SlAt 1 (fun x : Bool => [Value.bool x]) (fun _ _ => True) w ts) (hq0 : 0 ≤ q) (hq1 : q < 256) :
    Calls Try.prog 8 #[.slice s.a s.len s.cap, .slice ts.a ts.len ts.cap, .int .u8 q] w fun e w' => e = .returned (.bool true) ∧ Below w.heap.size w w' := by
  obtain ⟨hA, hL, hlc, hcm⟩ := acs_of hs
  generalize s.els.map qk = A at hA hL
  generalize s.a = a at hA ⊢
  generalize s.len = n at hA hlc ⊢
  generalize s.cap = c at hlc hcm ⊢
  have HA : Hid (St.At 35 ae w a n A) := hA
  have HL : Hid (∀ x ∈ A, AcAt w x) := hL
  have HLn : Hid (A.length = n) := hA.len
  unfold maxLen at hcm
  obtain ⟨htn, htc, htm, htl⟩ := ht
  obtain ⟨ta, tn, tc, tl⟩ := ts
  simp only at htn htc htm htl ⊢
  unfold maxLen at htm
  have HTn : Hid (tl.length = tn) := htn
  have HTl : Hid _ := htl
  have HMu : Hid (Calls Try.prog 20 #[.slice a n c] w (MchPost w n A)) := mmuch_any w a n c A hA hL
  have HM : Hid (M (fun _ => False) w w []) := M.start _ w
  clear hs hA hL htn htl
  go_enter Try.func8, Try.ntmps8
  go_wp2_with (first | (go_at_call 20; refine HMu.out.mono ?_; rintro e w1 ⟨⟨p, rfl, k1, hp⟩⟩; have HM : Hid _ := HM.out.calm k1; have HP : Hid _ := hp; clear k1 hp; cases p) | (go_at_call 21; refine (awakeM _).mono ?_; rintro e w9 ⟨rfl, k9⟩; have HM : Hid _ := HM.out.calm k9; clear k9) | (go_at_call 22; first | ((fail_if_success (have q := HM.out.get 0 rfl)); refine (mnew _).mono ?_; rintro e w2 ⟨b, bl, bo, rfl, m2⟩; have HM : Hid (M (fun _ => False) w w2 [muI b bl bo [] []]) := M.app1 HM.out m2; clear m2) | (refine (mnew _).mono ?_; rintro e w3 ⟨b3, bl3, bo3, rfl, m3⟩; have HM : Hid (M (fun _ => False) w w3 [muI b bl bo [] [], muI b3 bl3 bo3 [] []]) := M.app1 HM.out m3; clear m3)))
  rotate_left
  · go_ret
    exact ⟨rfl, Keep.below HM.out.keep (Nat.le_refl _) (fun _ h => h.elim)⟩
  obtain ⟨hn30, hf⟩ := HP.out (by trivial)
  have HF : Hid (∀ x ∈ A, few x) := hf
  clear hf HP HMu
  go_loopw [9] (fun s9 wr => ∃ (k : Nat) (L : List Wr) (O : List Wd), k ≤ n ∧ s9 = .int .i64 k ∧ M (fun _ => False) w wr [muI b bl bo L O, muI b3 bl3 bo3 [] []] ∧ Ob (A.take k) L O) (fun s9 _ => n - (intOf s9).toNat)
  case atStart => exact ⟨0, [], [], Nat.zero_le _, by go_num, HM.out, Ob.nil⟩
  case round =>
    clear HM
    obtain ⟨k, L, O, hk, rfl, hM, hOb⟩ := hrel
    have HM : Hid (M (fun _ => False) w wr [muI b bl bo L O, muI b3 bl3 bo3 [] []]) := hM
    have HOb : Hid (Ob (A.take k) L O) := hOb
    have HLl : Hid (L.length ≤ 900) := Nat.le_trans hOb.len (Nat.le_trans (List.length_take_le _ _) (by omega))
    clear hM hOb
    by_cases hlt : k < n
    · obtain ⟨x, hx⟩ : ∃ x, A[k]? = some x := ⟨_, List.getElem?_eq_getElem (by rw [HLn.out]; exact hlt)⟩
      obtain ⟨b1, o1, rfl, hb1, hr1⟩ : ∃ b off, a = some ⟨b, off, none⟩ ∧ b < w.heap.size ∧ ∀ i x, A[i]? = some x → w.rangeAt b (off + i * 35) (ae x) := by rcases HA.out.lay with e | e; omega; exact e
      have R1 : Hid (wr.rangeAt b1 (o1 + k * 35) (ae x)) := HM.out.keep.range hb1 (fun h => h) (hr1 k x hx)
      have HQl : Hid ((ae x).length = 35) := ae_len x
      have HAx : Hid (AcAt w x) := HL.out x (List.mem_of_getElem? hx)
      have H12 : Hid (x.ov.length ≤ 12) := by show _ ≤ _; rw [HAx.out.1.len]; exact (HF.out x (List.mem_of_getElem? hx)).1
      have H32 : Hid (∀ u ∈ x.ov, u.length = 32) := HAx.out.1.size
      have HTk : Hid (A.take (k + 1) = A.take k ++ [x]) := by show _ = _; rw [List.take_add_one, hx]; rfl
      clear hr1 hb1 hx
      go_wp2_with (first | ((with_reducible refine at_load 53 ?_); refine St.wl_load tyQ rfl rfl rfl R1.out HQl.out ?_; simp only [Act.put, List.setIfInBounds_toArray, List.set_cons_zero, List.set_cons_succ]) | (go_at_call 23; refine (mact_any _ b bl bo L O (HM.out.get 0 rfl) HOb.out.nd HLl.out x (HAx.out.calm HM.out.keep) (fun g o e h0 hf => by have h1 := HAx.out.lt e h0; have h2 := (HM.out.rng 0 _ rfl g hf).1.resolve_right (fun h => h); omega)).mono ?_; rintro e w4 ⟨rfl, L4, n4, m4, t4⟩; have HO4 : Hid (Ob (A.take k ++ [x]) L4 (goO O x)) := HOb.out.step x H12.out H32.out n4 m4; have HM : Hid _ := M.mto HM.out 0 rfl t4; clear t4 n4 m4))
      go_roundw
      case rel => exact ⟨k + 1, L4, _, by omega, by go_num, HM.out, by rw [HTk.out]; exact HO4.out⟩
      case measure => simp [intOf]; omega
    · obtain rfl : n = k := by omega
      have HTk : Hid (A.take n = A) := List.take_of_length_le (by rw [HLn.out]; exact Nat.le_refl _)
      rw [HTk.out] at HOb
      clear hlt hk
      go_wp2
      go_loopw [10, 8] (fun s10 s8 wr => ∃ (k : Nat) (C : List Ac) (q2 ql2 qo2 : Nat) (L2 : List Wr) (O2 : List Wd), k ≤ n ∧ s10 = .int .i64 k ∧ s8 = .pointer (some ⟨q2, 0, none⟩) ∧ M (fun _ => False) w wr [muI b bl bo L O, muI q2 ql2 qo2 L2 O2] ∧ Ob C L2 O2 ∧ C.length ≤ 2 * k ∧ (∀ y, y ∈ C ↔ ∃ j, n - k ≤ j ∧ A[j]? = some y)) (fun s10 _ _ => n - (intOf s10).toNat)
      case atStart => exact ⟨0, [], b3, bl3, bo3, [], [], Nat.zero_le _, by go_num, rfl, HM.out, Ob.nil, Nat.le_refl _, fun y => ⟨fun h => (by cases h), fun ⟨j, hj, h⟩ => (by have := (List.getElem?_eq_some_iff.1 h).1; rw [HLn.out] at this; omega)⟩⟩
      case round =>
        clear HM
        obtain ⟨k, C, q2, ql2, qo2, L2, O2, hk, rfl, rfl, hM, hOb2, hCl, hCm⟩ := hrel
        have HM : Hid (M (fun _ => False) w wr [muI b bl bo L O, muI q2 ql2 qo2 L2 O2]) := hM
        have HO2 : Hid (Ob C L2 O2) := hOb2
        have HCm : Hid (∀ y, y ∈ C ↔ ∃ j, n - k ≤ j ∧ A[j]? = some y) := hCm
        have HCl : Hid (C.length ≤ 2 * k) := hCl
        clear hM hOb2 hCm hCl
        by_cases hlt : k < n
        · obtain ⟨r, hr⟩ : ∃ r, n = k + 1 + r := ⟨n - (k + 1), by omega⟩
          have hrn : r < n := by omega
          have Hr : Hid (n = k + 1 + r) := hr
          have hw1 : IntKind.i64.wrap ((n : Int) - 1) = (n : Int) - 1 := by rw [IntKind.wrap_i64]; omega
          have hw2 : IntKind.i64.wrap ((n : Int) - 1 - (k : Int)) = (r : Int) := by rw [IntKind.wrap_i64]; omega
          obtain ⟨x, hx⟩ : ∃ x, A[r]? = some x := ⟨_, List.getElem?_eq_getElem (by rw [HLn.out]; exact hrn)⟩
          obtain ⟨b1, o1, rfl, hb1, hr1⟩ : ∃ b off, a = some ⟨b, off, none⟩ ∧ b < w.heap.size ∧ ∀ i x, A[i]? = some x → w.rangeAt b (off + i * 35) (ae x) := by rcases HA.out.lay with e | e; omega; exact e
          have R1 : Hid (wr.rangeAt b1 (o1 + r * 35) (ae x)) := HM.out.keep.range hb1 (fun h => h) (hr1 r x hx)
          have HQl : Hid ((ae x).length = 35) := ae_len x
          have HQs : Hid ((ae x).toArray.size = 35) := by show _ = _; rw [List.size_toArray]; exact ae_len x
          have HAx : Hid (AcAt w x) := HL.out x (List.mem_of_getElem? hx)
          have H12 : Hid (x.ov.length ≤ 12) := by show _ ≤ _; rw [HAx.out.1.len]; exact (HF.out x (List.mem_of_getElem? hx)).1
          have H32 : Hid (∀ u ∈ x.ov, u.length = 32) := HAx.out.1.size
          have HC1 : Hid (∀ y, (y ∈ C ∨ y = x) ↔ ∃ j, n - (k + 1) ≤ j ∧ A[j]? = some y) := fun y => by
            rw [HCm.out]
            constructor
            · rintro (⟨j, h1, h2⟩ | rfl)
              · exact ⟨j, by omega, h2⟩
              · exact ⟨r, by omega, hx⟩
            · rintro ⟨j, h1, h2⟩
              rcases Nat.lt_or_ge j (n - k) with h3 | h3
              · obtain rfl : j = r := by omega
                rw [hx] at h2
                exact .inr (Option.some.inj h2).symm
              · exact .inl ⟨j, h3, h2⟩
          clear hr1 hb1 hx hr
          have HM : Hid (M (fun _ => False) w _ [muI b bl bo L O, muI q2 ql2 qo2 L2 O2, blk wr.heap.size (.cells (ae x).toArray 53)]) := HM.out.alloc (.cells (ae x).toArray 53) rfl
          have HC5 : Hid (∀ y, y ∈ C ++ [x] ↔ ∃ j, n - (k + 1) ≤ j ∧ A[j]? = some y) := fun y => by
            rw [← HC1.out, List.mem_append, List.mem_singleton]
          have HC6 : Hid (∀ y, y ∈ C ++ [x] ++ [x] ↔ ∃ j, n - (k + 1) ≤ j ∧ A[j]? = some y) := fun y => by
            rw [← HC1.out, List.mem_append, List.mem_append, List.mem_singleton]
            exact ⟨fun h => h.elim id .inr, .inl⟩
          have HL5 : Hid ((C ++ [x]).length ≤ 2 * (k + 1)) := by show _ ≤ _; rw [List.length_append]; have := HCl.out; simp; omega
          have HL6 : Hid ((C ++ [x] ++ [x]).length ≤ 2 * (k + 1)) := by show _ ≤ _; rw [List.length_append, List.length_append]; have := HCl.out; simp; omega
          have hwq : IntKind.i64.wrap q = q := by rw [IntKind.wrap_i64]; omega
          have hk60 : 2 * (k + 1) ≤ 60 := by omega
          by_cases hkt : k < tn
          · obtain ⟨tv, htv⟩ : ∃ t, tl[k]? = some t := ⟨_, List.getElem?_eq_getElem (by rw [HTn.out]; exact hkt)⟩
            obtain ⟨g2, o2, rfl, hg2, hrt⟩ := HTl.out.resolve_left (by omega)
            have HT0 : Hid (w.rangeAt g2 (o2 + k) [Value.bool tv]) := by
              have := (hrt k tv htv).1
              show w.rangeAt g2 (o2 + k) [Value.bool tv]
              simpa using this
            have Hg2 : Hid (g2 < w.heap.size) := hg2
            clear htv hrt hg2
            cases tv with
            | false =>
              by_cases hkq : (k : Int) = q
              · subst hkq
                go_wp2_with (first | ((with_reducible refine at_load 53 ?_); first | (refine St.wl_load tyQ rfl rfl rfl (HM.out.range 2 rfl) HQl.out ?_; simp only [Act.put, List.setIfInBounds_toArray, List.set_cons_zero, List.set_cons_succ]) | (refine St.wl_load tyQ rfl rfl rfl R1.out HQl.out ?_; simp only [Act.put, List.setIfInBounds_toArray, List.set_cons_zero, List.set_cons_succ])) | ((with_reducible refine at_alloc 53 ?_); refine St.wl_alloc tyQ rfl rfl (by (try simp only [World.size_alloc]); rfl) ?_; simp only [Act.put, List.setIfInBounds_toArray, List.set_cons_zero, List.set_cons_succ]) | ((with_reducible refine at_store 53 ?_); refine St.wl_storeN (W := wr) tyQ rfl rfl rfl rfl rfl (by (try simp only [World.size_alloc])) (show _ = Value.agg (ae x).toArray from rfl) HQs.out rfl (encA.all x) ?_) | (go_at_call 23; first | (refine (mact_any _ q2 ql2 qo2 L2 O2 (HM.out.get 1 rfl) HO2.out.nd (Nat.le_trans HO2.out.len (Nat.le_trans HCl.out (by omega))) x (HAx.out.calm HM.out.keep) (fun g o e h0 hf => by have h1 := HAx.out.lt e h0; have h2 := (HM.out.rng 1 _ rfl g hf).1.resolve_right (fun h => h); omega)).mono ?_; rintro e w5 ⟨rfl, L5, n5, m5, t5⟩; have HO5 : Hid (Ob (C ++ [x]) L5 (goO O2 x)) := HO2.out.step x H12.out H32.out n5 m5; have HM : Hid (M (fun _ => False) w w5 [muI b bl bo L O, muI q2 ql2 qo2 L5 (goO O2 x), blk wr.heap.size (.cells (ae x).toArray 53)]) := M.mto HM.out 1 rfl t5; clear t5 n5 m5; try (have cT := HM.out.keep.range Hg2.out (fun h => h) HT0.out 0 _ rfl; rw [Nat.add_zero] at cT)) | (refine (mact_any _ q2 ql2 qo2 L5 (goO O2 x) (HM.out.get 1 rfl) HO5.out.nd (Nat.le_trans HO5.out.len (Nat.le_trans HL5.out (by omega))) x (HAx.out.calm HM.out.keep) (fun g o e h0 hf => by have h1 := HAx.out.lt e h0; have h2 := (HM.out.rng 1 _ rfl g hf).1.resolve_right (fun h => h); omega)).mono ?_; rintro e w6 ⟨rfl, L6, n6, m6, t6⟩; have HO6 : Hid (Ob (C ++ [x] ++ [x]) L6 (goO (goO O2 x) x)) := HO5.out.step x H12.out H32.out n6 m6; have HM : Hid (M (fun _ => False) w w6 [muI b bl bo L O, muI q2 ql2 qo2 L6 (goO (goO O2 x) x), blk wr.heap.size (.cells (ae x).toArray 53)]) := M.mto HM.out 1 rfl t6; clear t6 n6 m6)) | (go_at_call 35; refine (put_t HO5.out (Nat.le_trans HL5.out hk60) (HM.out.get 1 rfl)).mono ?_; rintro e w7 ⟨rfl, t7⟩; have HM : Hid _ := M.mto HM.out 1 rfl t7; clear t7) | (go_at_call 45; refine (wload_any _ _ (putT_size HO5.out (Nat.le_trans HL5.out hk60))).mono ?_; intro e w8 h8; obtain ⟨q7, ql7, qo7, L7, O7, e7, m7, h7⟩ := load_put HO5.out (Nat.le_trans HL5.out hk60) h8; subst e7; have HO7 : Hid _ := h7; have HM : Hid _ := M.app1 HM.out m7; clear h8 m7 h7))
                go_roundw
                case rel => exact ⟨k + 1, C ++ [x], q7, ql7, qo7, L7, O7, by omega, by go_num, rfl, HM.out.sub _ [0, 3] (by decide) rfl, HO7.out, HL5.out, HC5.out⟩
                case measure => simp [intOf]; omega
              · skip
                go_wp2_with (first | ((with_reducible refine at_load 53 ?_); first | (refine St.wl_load tyQ rfl rfl rfl (HM.out.range 2 rfl) HQl.out ?_; simp only [Act.put, List.setIfInBounds_toArray, List.set_cons_zero, List.set_cons_succ]) | (refine St.wl_load tyQ rfl rfl rfl R1.out HQl.out ?_; simp only [Act.put, List.setIfInBounds_toArray, List.set_cons_zero, List.set_cons_succ])) | ((with_reducible refine at_alloc 53 ?_); refine St.wl_alloc tyQ rfl rfl (by (try simp only [World.size_alloc]); rfl) ?_; simp only [Act.put, List.setIfInBounds_toArray, List.set_cons_zero, List.set_cons_succ]) | ((with_reducible refine at_store 53 ?_); refine St.wl_storeN (W := wr) tyQ rfl rfl rfl rfl rfl (by (try simp only [World.size_alloc])) (show _ = Value.agg (ae x).toArray from rfl) HQs.out rfl (encA.all x) ?_) | (go_at_call 23; first | (refine (mact_any _ q2 ql2 qo2 L2 O2 (HM.out.get 1 rfl) HO2.out.nd (Nat.le_trans HO2.out.len (Nat.le_trans HCl.out (by omega))) x (HAx.out.calm HM.out.keep) (fun g o e h0 hf => by have h1 := HAx.out.lt e h0; have h2 := (HM.out.rng 1 _ rfl g hf).1.resolve_right (fun h => h); omega)).mono ?_; rintro e w5 ⟨rfl, L5, n5, m5, t5⟩; have HO5 : Hid (Ob (C ++ [x]) L5 (goO O2 x)) := HO2.out.step x H12.out H32.out n5 m5; have HM : Hid (M (fun _ => False) w w5 [muI b bl bo L O, muI q2 ql2 qo2 L5 (goO O2 x), blk wr.heap.size (.cells (ae x).toArray 53)]) := M.mto HM.out 1 rfl t5; clear t5 n5 m5; try (have cT := HM.out.keep.range Hg2.out (fun h => h) HT0.out 0 _ rfl; rw [Nat.add_zero] at cT)) | (refine (mact_any _ q2 ql2 qo2 L5 (goO O2 x) (HM.out.get 1 rfl) HO5.out.nd (Nat.le_trans HO5.out.len (Nat.le_trans HL5.out (by omega))) x (HAx.out.calm HM.out.keep) (fun g o e h0 hf => by have h1 := HAx.out.lt e h0; have h2 := (HM.out.rng 1 _ rfl g hf).1.resolve_right (fun h => h); omega)).mono ?_; rintro e w6 ⟨rfl, L6, n6, m6, t6⟩; have HO6 : Hid (Ob (C ++ [x] ++ [x]) L6 (goO (goO O2 x) x)) := HO5.out.step x H12.out H32.out n6 m6; have HM : Hid (M (fun _ => False) w w6 [muI b bl bo L O, muI q2 ql2 qo2 L6 (goO (goO O2 x) x), blk wr.heap.size (.cells (ae x).toArray 53)]) := M.mto HM.out 1 rfl t6; clear t6 n6 m6)) | (go_at_call 35; refine (put_t HO5.out (Nat.le_trans HL5.out hk60) (HM.out.get 1 rfl)).mono ?_; rintro e w7 ⟨rfl, t7⟩; have HM : Hid _ := M.mto HM.out 1 rfl t7; clear t7) | (go_at_call 45; refine (wload_any _ _ (putT_size HO5.out (Nat.le_trans HL5.out hk60))).mono ?_; intro e w8 h8; obtain ⟨q7, ql7, qo7, L7, O7, e7, m7, h7⟩ := load_put HO5.out (Nat.le_trans HL5.out hk60) h8; subst e7; have HO7 : Hid _ := h7; have HM : Hid _ := M.app1 HM.out m7; clear h8 m7 h7))
                go_roundw
                case rel => exact ⟨k + 1, C ++ [x], q2, ql2, qo2, _, _, by omega, by go_num, rfl, HM.out.take 2, HO5.out, HL5.out, HC5.out⟩
                case measure => simp [intOf]; omega
            | true =>
              by_cases hkq : (k : Int) = q
              · subst hkq
                go_wp2_with (first | ((with_reducible refine at_load 53 ?_); first | (refine St.wl_load tyQ rfl rfl rfl (HM.out.range 2 rfl) HQl.out ?_; simp only [Act.put, List.setIfInBounds_toArray, List.set_cons_zero, List.set_cons_succ]) | (refine St.wl_load tyQ rfl rfl rfl R1.out HQl.out ?_; simp only [Act.put, List.setIfInBounds_toArray, List.set_cons_zero, List.set_cons_succ])) | ((with_reducible refine at_alloc 53 ?_); refine St.wl_alloc tyQ rfl rfl (by (try simp only [World.size_alloc]); rfl) ?_; simp only [Act.put, List.setIfInBounds_toArray, List.set_cons_zero, List.set_cons_succ]) | ((with_reducible refine at_store 53 ?_); refine St.wl_storeN (W := wr) tyQ rfl rfl rfl rfl rfl (by (try simp only [World.size_alloc])) (show _ = Value.agg (ae x).toArray from rfl) HQs.out rfl (encA.all x) ?_) | (go_at_call 23; first | (refine (mact_any _ q2 ql2 qo2 L2 O2 (HM.out.get 1 rfl) HO2.out.nd (Nat.le_trans HO2.out.len (Nat.le_trans HCl.out (by omega))) x (HAx.out.calm HM.out.keep) (fun g o e h0 hf => by have h1 := HAx.out.lt e h0; have h2 := (HM.out.rng 1 _ rfl g hf).1.resolve_right (fun h => h); omega)).mono ?_; rintro e w5 ⟨rfl, L5, n5, m5, t5⟩; have HO5 : Hid (Ob (C ++ [x]) L5 (goO O2 x)) := HO2.out.step x H12.out H32.out n5 m5; have HM : Hid (M (fun _ => False) w w5 [muI b bl bo L O, muI q2 ql2 qo2 L5 (goO O2 x), blk wr.heap.size (.cells (ae x).toArray 53)]) := M.mto HM.out 1 rfl t5; clear t5 n5 m5; try (have cT := HM.out.keep.range Hg2.out (fun h => h) HT0.out 0 _ rfl; rw [Nat.add_zero] at cT)) | (refine (mact_any _ q2 ql2 qo2 L5 (goO O2 x) (HM.out.get 1 rfl) HO5.out.nd (Nat.le_trans HO5.out.len (Nat.le_trans HL5.out (by omega))) x (HAx.out.calm HM.out.keep) (fun g o e h0 hf => by have h1 := HAx.out.lt e h0; have h2 := (HM.out.rng 1 _ rfl g hf).1.resolve_right (fun h => h); omega)).mono ?_; rintro e w6 ⟨rfl, L6, n6, m6, t6⟩; have HO6 : Hid (Ob (C ++ [x] ++ [x]) L6 (goO (goO O2 x) x)) := HO5.out.step x H12.out H32.out n6 m6; have HM : Hid (M (fun _ => False) w w6 [muI b bl bo L O, muI q2 ql2 qo2 L6 (goO (goO O2 x) x), blk wr.heap.size (.cells (ae x).toArray 53)]) := M.mto HM.out 1 rfl t6; clear t6 n6 m6)) | (go_at_call 35; refine (put_t HO6.out (Nat.le_trans HL6.out hk60) (HM.out.get 1 rfl)).mono ?_; rintro e w7 ⟨rfl, t7⟩; have HM : Hid _ := M.mto HM.out 1 rfl t7; clear t7) | (go_at_call 45; refine (wload_any _ _ (putT_size HO6.out (Nat.le_trans HL6.out hk60))).mono ?_; intro e w8 h8; obtain ⟨q7, ql7, qo7, L7, O7, e7, m7, h7⟩ := load_put HO6.out (Nat.le_trans HL6.out hk60) h8; subst e7; have HO7 : Hid _ := h7; have HM : Hid _ := M.app1 HM.out m7; clear h8 m7 h7))
                go_roundw
                case rel => exact ⟨k + 1, C ++ [x] ++ [x], q7, ql7, qo7, L7, O7, by omega, by go_num, rfl, HM.out.sub _ [0, 3] (by decide) rfl, HO7.out, HL6.out, HC6.out⟩
                case measure => simp [intOf]; omega
              · skip
                go_wp2_with (first | ((with_reducible refine at_load 53 ?_); first | (refine St.wl_load tyQ rfl rfl rfl (HM.out.range 2 rfl) HQl.out ?_; simp only [Act.put, List.setIfInBounds_toArray, List.set_cons_zero, List.set_cons_succ]) | (refine St.wl_load tyQ rfl rfl rfl R1.out HQl.out ?_; simp only [Act.put, List.setIfInBounds_toArray, List.set_cons_zero, List.set_cons_succ])) | ((with_reducible refine at_alloc 53 ?_); refine St.wl_alloc tyQ rfl rfl (by (try simp only [World.size_alloc]); rfl) ?_; simp only [Act.put, List.setIfInBounds_toArray, List.set_cons_zero, List.set_cons_succ]) | ((with_reducible refine at_store 53 ?_); refine St.wl_storeN (W := wr) tyQ rfl rfl rfl rfl rfl (by (try simp only [World.size_alloc])) (show _ = Value.agg (ae x).toArray from rfl) HQs.out rfl (encA.all x) ?_) | (go_at_call 23; first | (refine (mact_any _ q2 ql2 qo2 L2 O2 (HM.out.get 1 rfl) HO2.out.nd (Nat.le_trans HO2.out.len (Nat.le_trans HCl.out (by omega))) x (HAx.out.calm HM.out.keep) (fun g o e h0 hf => by have h1 := HAx.out.lt e h0; have h2 := (HM.out.rng 1 _ rfl g hf).1.resolve_right (fun h => h); omega)).mono ?_; rintro e w5 ⟨rfl, L5, n5, m5, t5⟩; have HO5 : Hid (Ob (C ++ [x]) L5 (goO O2 x)) := HO2.out.step x H12.out H32.out n5 m5; have HM : Hid (M (fun _ => False) w w5 [muI b bl bo L O, muI q2 ql2 qo2 L5 (goO O2 x), blk wr.heap.size (.cells (ae x).toArray 53)]) := M.mto HM.out 1 rfl t5; clear t5 n5 m5; try (have cT := HM.out.keep.range Hg2.out (fun h => h) HT0.out 0 _ rfl; rw [Nat.add_zero] at cT)) | (refine (mact_any _ q2 ql2 qo2 L5 (goO O2 x) (HM.out.get 1 rfl) HO5.out.nd (Nat.le_trans HO5.out.len (Nat.le_trans HL5.out (by omega))) x (HAx.out.calm HM.out.keep) (fun g o e h0 hf => by have h1 := HAx.out.lt e h0; have h2 := (HM.out.rng 1 _ rfl g hf).1.resolve_right (fun h => h); omega)).mono ?_; rintro e w6 ⟨rfl, L6, n6, m6, t6⟩; have HO6 : Hid (Ob (C ++ [x] ++ [x]) L6 (goO (goO O2 x) x)) := HO5.out.step x H12.out H32.out n6 m6; have HM : Hid (M (fun _ => False) w w6 [muI b bl bo L O, muI q2 ql2 qo2 L6 (goO (goO O2 x) x), blk wr.heap.size (.cells (ae x).toArray 53)]) := M.mto HM.out 1 rfl t6; clear t6 n6 m6)) | (go_at_call 35; refine (put_t HO6.out (Nat.le_trans HL6.out hk60) (HM.out.get 1 rfl)).mono ?_; rintro e w7 ⟨rfl, t7⟩; have HM : Hid _ := M.mto HM.out 1 rfl t7; clear t7) | (go_at_call 45; refine (wload_any _ _ (putT_size HO6.out (Nat.le_trans HL6.out hk60))).mono ?_; intro e w8 h8; obtain ⟨q7, ql7, qo7, L7, O7, e7, m7, h7⟩ := load_put HO6.out (Nat.le_trans HL6.out hk60) h8; subst e7; have HO7 : Hid _ := h7; have HM : Hid _ := M.app1 HM.out m7; clear h8 m7 h7))
                go_roundw
                case rel => exact ⟨k + 1, C ++ [x] ++ [x], q2, ql2, qo2, _, _, by omega, by go_num, rfl, HM.out.take 2, HO6.out, HL6.out, HC6.out⟩
                case measure => simp [intOf]; omega
          · by_cases hkq : (k : Int) = q
            · subst hkq
              go_wp2_with (first | ((with_reducible refine at_load 53 ?_); first | (refine St.wl_load tyQ rfl rfl rfl (HM.out.range 2 rfl) HQl.out ?_; simp only [Act.put, List.setIfInBounds_toArray, List.set_cons_zero, List.set_cons_succ]) | (refine St.wl_load tyQ rfl rfl rfl R1.out HQl.out ?_; simp only [Act.put, List.setIfInBounds_toArray, List.set_cons_zero, List.set_cons_succ])) | ((with_reducible refine at_alloc 53 ?_); refine St.wl_alloc tyQ rfl rfl (by (try simp only [World.size_alloc]); rfl) ?_; simp only [Act.put, List.setIfInBounds_toArray, List.set_cons_zero, List.set_cons_succ]) | ((with_reducible refine at_store 53 ?_); refine St.wl_storeN (W := wr) tyQ rfl rfl rfl rfl rfl (by (try simp only [World.size_alloc])) (show _ = Value.agg (ae x).toArray from rfl) HQs.out rfl (encA.all x) ?_) | (go_at_call 23; first | (refine (mact_any _ q2 ql2 qo2 L2 O2 (HM.out.get 1 rfl) HO2.out.nd (Nat.le_trans HO2.out.len (Nat.le_trans HCl.out (by omega))) x (HAx.out.calm HM.out.keep) (fun g o e h0 hf => by have h1 := HAx.out.lt e h0; have h2 := (HM.out.rng 1 _ rfl g hf).1.resolve_right (fun h => h); omega)).mono ?_; rintro e w5 ⟨rfl, L5, n5, m5, t5⟩; have HO5 : Hid (Ob (C ++ [x]) L5 (goO O2 x)) := HO2.out.step x H12.out H32.out n5 m5; have HM : Hid (M (fun _ => False) w w5 [muI b bl bo L O, muI q2 ql2 qo2 L5 (goO O2 x), blk wr.heap.size (.cells (ae x).toArray 53)]) := M.mto HM.out 1 rfl t5; clear t5 n5 m5; try (have cT := HM.out.keep.range Hg2.out (fun h => h) HT0.out 0 _ rfl; rw [Nat.add_zero] at cT)) | (refine (mact_any _ q2 ql2 qo2 L5 (goO O2 x) (HM.out.get 1 rfl) HO5.out.nd (Nat.le_trans HO5.out.len (Nat.le_trans HL5.out (by omega))) x (HAx.out.calm HM.out.keep) (fun g o e h0 hf => by have h1 := HAx.out.lt e h0; have h2 := (HM.out.rng 1 _ rfl g hf).1.resolve_right (fun h => h); omega)).mono ?_; rintro e w6 ⟨rfl, L6, n6, m6, t6⟩; have HO6 : Hid (Ob (C ++ [x] ++ [x]) L6 (goO (goO O2 x) x)) := HO5.out.step x H12.out H32.out n6 m6; have HM : Hid (M (fun _ => False) w w6 [muI b bl bo L O, muI q2 ql2 qo2 L6 (goO (goO O2 x) x), blk wr.heap.size (.cells (ae x).toArray 53)]) := M.mto HM.out 1 rfl t6; clear t6 n6 m6)) | (go_at_call 35; refine (put_t HO5.out (Nat.le_trans HL5.out hk60) (HM.out.get 1 rfl)).mono ?_; rintro e w7 ⟨rfl, t7⟩; have HM : Hid _ := M.mto HM.out 1 rfl t7; clear t7) | (go_at_call 45; refine (wload_any _ _ (putT_size HO5.out (Nat.le_trans HL5.out hk60))).mono ?_; intro e w8 h8; obtain ⟨q7, ql7, qo7, L7, O7, e7, m7, h7⟩ := load_put HO5.out (Nat.le_trans HL5.out hk60) h8; subst e7; have HO7 : Hid _ := h7; have HM : Hid _ := M.app1 HM.out m7; clear h8 m7 h7))
              go_roundw
              case rel => exact ⟨k + 1, C ++ [x], q7, ql7, qo7, L7, O7, by omega, by go_num, rfl, HM.out.sub _ [0, 3] (by decide) rfl, HO7.out, HL5.out, HC5.out⟩
              case measure => simp [intOf]; omega
            · skip
              go_wp2_with (first | ((with_reducible refine at_load 53 ?_); first | (refine St.wl_load tyQ rfl rfl rfl (HM.out.range 2 rfl) HQl.out ?_; simp only [Act.put, List.setIfInBounds_toArray, List.set_cons_zero, List.set_cons_succ]) | (refine St.wl_load tyQ rfl rfl rfl R1.out HQl.out ?_; simp only [Act.put, List.setIfInBounds_toArray, List.set_cons_zero, List.set_cons_succ])) | ((with_reducible refine at_alloc 53 ?_); refine St.wl_alloc tyQ rfl rfl (by (try simp only [World.size_alloc]); rfl) ?_; simp only [Act.put, List.setIfInBounds_toArray, List.set_cons_zero, List.set_cons_succ]) | ((with_reducible refine at_store 53 ?_); refine St.wl_storeN (W := wr) tyQ rfl rfl rfl rfl rfl (by (try simp only [World.size_alloc])) (show _ = Value.agg (ae x).toArray from rfl) HQs.out rfl (encA.all x) ?_) | (go_at_call 23; first | (refine (mact_any _ q2 ql2 qo2 L2 O2 (HM.out.get 1 rfl) HO2.out.nd (Nat.le_trans HO2.out.len (Nat.le_trans HCl.out (by omega))) x (HAx.out.calm HM.out.keep) (fun g o e h0 hf => by have h1 := HAx.out.lt e h0; have h2 := (HM.out.rng 1 _ rfl g hf).1.resolve_right (fun h => h); omega)).mono ?_; rintro e w5 ⟨rfl, L5, n5, m5, t5⟩; have HO5 : Hid (Ob (C ++ [x]) L5 (goO O2 x)) := HO2.out.step x H12.out H32.out n5 m5; have HM : Hid (M (fun _ => False) w w5 [muI b bl bo L O, muI q2 ql2 qo2 L5 (goO O2 x), blk wr.heap.size (.cells (ae x).toArray 53)]) := M.mto HM.out 1 rfl t5; clear t5 n5 m5; try (have cT := HM.out.keep.range Hg2.out (fun h => h) HT0.out 0 _ rfl; rw [Nat.add_zero] at cT)) | (refine (mact_any _ q2 ql2 qo2 L5 (goO O2 x) (HM.out.get 1 rfl) HO5.out.nd (Nat.le_trans HO5.out.len (Nat.le_trans HL5.out (by omega))) x (HAx.out.calm HM.out.keep) (fun g o e h0 hf => by have h1 := HAx.out.lt e h0; have h2 := (HM.out.rng 1 _ rfl g hf).1.resolve_right (fun h => h); omega)).mono ?_; rintro e w6 ⟨rfl, L6, n6, m6, t6⟩; have HO6 : Hid (Ob (C ++ [x] ++ [x]) L6 (goO (goO O2 x) x)) := HO5.out.step x H12.out H32.out n6 m6; have HM : Hid (M (fun _ => False) w w6 [muI b bl bo L O, muI q2 ql2 qo2 L6 (goO (goO O2 x) x), blk wr.heap.size (.cells (ae x).toArray 53)]) := M.mto HM.out 1 rfl t6; clear t6 n6 m6)) | (go_at_call 35; refine (put_t HO5.out (Nat.le_trans HL5.out hk60) (HM.out.get 1 rfl)).mono ?_; rintro e w7 ⟨rfl, t7⟩; have HM : Hid _ := M.mto HM.out 1 rfl t7; clear t7) | (go_at_call 45; refine (wload_any _ _ (putT_size HO5.out (Nat.le_trans HL5.out hk60))).mono ?_; intro e w8 h8; obtain ⟨q7, ql7, qo7, L7, O7, e7, m7, h7⟩ := load_put HO5.out (Nat.le_trans HL5.out hk60) h8; subst e7; have HO7 : Hid _ := h7; have HM : Hid _ := M.app1 HM.out m7; clear h8 m7 h7))
              go_roundw
              case rel => exact ⟨k + 1, C ++ [x], q2, ql2, qo2, _, _, by omega, by go_num, rfl, HM.out.take 2, HO5.out, HL5.out, HC5.out⟩
              case measure => simp [intOf]; omega
        · obtain rfl : n = k := by omega
          obtain ⟨hLs, hOs⟩ := HOb.out.uniq HO2.out (fun y => by
            rw [HCm.out, Nat.sub_self]
            exact ⟨fun h => by
              obtain ⟨j, hj⟩ := List.getElem?_of_mem h
              exact ⟨j, Nat.zero_le _, hj⟩, fun ⟨j, _, hj⟩ => List.mem_of_getElem? hj⟩)
          have HL60 : Hid (A.length ≤ 60) := by show _ ≤ _; rw [HLn.out]; omega
          have HC60 : Hid (C.length ≤ 60) := by show _ ≤ _; have := HCl.out; omega
          obtain ⟨T, hT⟩ : ∃ T : ByteArray, putT L O = T := ⟨_, rfl⟩
          obtain ⟨l, hl⟩ : ∃ l, srtP (L.map kv) = l := ⟨_, rfl⟩
          have hT2 : putT L2 O2 = T := by rw [← hT]; exact (putT_congr hLs hOs).symm
          have hl2 : srtP (L2.map kv) = l := by
            rw [← hl]
            exact srtP_congr (fun p => by
              rw [mem_kv, mem_kv]
              exact ⟨fun ⟨x, h1, h2⟩ => ⟨x, (hLs x).2 h1, h2⟩, fun ⟨x, h1, h2⟩ => ⟨x, (hLs x).1 h1, h2⟩⟩)
          have HPa : Hid (∀ w1, MuAt w1 b bl bo L O → Calls Try.prog 35 #[.pointer (some ⟨b, 0, none⟩)] w1 fun e w' => e = .returned (.string T) ∧ MTo w1 w' b bl bo L O) := fun w1 h1 => by
            have := put_t HOb.out HL60.out h1
            rwa [hT] at this
          have HPb : Hid (∀ w1, MuAt w1 q2 ql2 qo2 L2 O2 → Calls Try.prog 35 #[.pointer (some ⟨q2, 0, none⟩)] w1 fun e w' => e = .returned (.string T) ∧ MTo w1 w' q2 ql2 qo2 L2 O2) := fun w1 h1 => by
            have := put_t HO2.out HC60.out h1
            rwa [hT2] at this
          have HLa : Hid (∀ w1, MuAt w1 b bl bo L O → Calls Try.prog 32 #[.pointer (some ⟨b, 0, none⟩)] w1 fun e w' => ∃ v, e = .returned v ∧ M (mfoot b bl bo) w1 w' [muI b bl bo L O, rP v l]) := fun w1 h1 => by
            have := list_t HOb.out HL60.out h1
            rwa [hl] at this
          have HLb : Hid (∀ w1, MuAt w1 q2 ql2 qo2 L2 O2 → Calls Try.prog 32 #[.pointer (some ⟨q2, 0, none⟩)] w1 fun e w' => ∃ v, e = .returned v ∧ M (mfoot q2 ql2 qo2) w1 w' [muI q2 ql2 qo2 L2 O2, rP v l]) := fun w1 h1 => by
            have := list_t HO2.out HC60.out h1
            rwa [hl2] at this
          have htt : (T.toList == T.toList) = true := by simp
          clear hT hT2 hl hl2 hLs hOs
          go_wp2_with (first | (go_at_call 35; first | ((with_reducible refine at_callW #[.pointer (some ⟨b, 0, none⟩)] ?_); refine (HPa.out _ (HM.out.get 0 rfl)).mono ?_; rintro e w4 ⟨rfl, t4⟩; have HM : Hid (M (fun _ => False) w w4 [muI b bl bo L O, muI q2 ql2 qo2 L2 O2]) := M.mto HM.out 0 rfl t4; clear t4) | ((with_reducible refine at_callW #[.pointer (some ⟨q2, 0, none⟩)] ?_); refine (HPb.out _ (HM.out.get 1 rfl)).mono ?_; rintro e w5 ⟨rfl, t5⟩; have HM : Hid (M (fun _ => False) w w5 [muI b bl bo L O, muI q2 ql2 qo2 L2 O2]) := M.mto HM.out 1 rfl t5; clear t5)) | (go_at_call 32; first | ((with_reducible refine at_callW #[.pointer (some ⟨b, 0, none⟩)] ?_); refine (HLa.out _ (HM.out.get 0 rfl)).mono ?_; rintro e w6 ⟨v6, rfl, m6⟩; have HM : Hid (M (fun _ => False) w w6 [muI b bl bo L O, muI q2 ql2 qo2 L2 O2, rP v6 l]) := two HM.out 0 rfl m6; clear m6; obtain ⟨a6, c6, e6, _⟩ := (show OwnP w6 v6 l from HM.out.get 2 rfl).any; subst e6) | ((with_reducible refine at_callW #[.pointer (some ⟨q2, 0, none⟩)] ?_); refine (HLb.out _ (HM.out.get 1 rfl)).mono ?_; rintro e w7 ⟨v7, rfl, m7⟩; have HM : Hid (M (fun _ => False) w w7 [muI b bl bo L O, muI q2 ql2 qo2 L2 O2, rP (.slice a6 l.length c6) l, rP v7 l]) := two HM.out 1 rfl m7; clear m7; obtain ⟨a7, c7, e7, _⟩ := (show OwnP w7 v7 l from HM.out.get 3 rfl).any; subst e7)) | (go_at_call 31; refine (ppairs_same _ a6 a7 l.length c6 c7 l (St.Own.slice (show OwnP _ (.slice a6 l.length c6) l from HM.out.get 2 rfl)).2 (St.Own.slice (show OwnP _ (.slice a7 l.length c7) l from HM.out.get 3 rfl)).2).mono ?_; rintro e w8 ⟨rfl, k8⟩; have HM : Hid (M (fun _ => False) w w8 [muI b bl bo L O, muI q2 ql2 qo2 L2 O2]) := (HM.out.calm k8).take 2; clear k8) | (go_at_call 21; refine (awakeM _).mono ?_; rintro e w12 ⟨rfl, k12⟩; have HM : Hid _ := HM.out.calm k12; clear k12))
          go_ret
          exact ⟨rfl, Keep.below HM.out.keep (Nat.le_refl _) (fun _ h => h.elim)⟩
theorem rd_tb : Opn.Rd Try.prog 80 1 (fun x : Opn.Sl Bool => [x.val]) (Opn.SlAt 1 (fun x : Bool => [Value.bool x]) (fun _ _ => True)) (fun x => (x.els.map fun _ => 1).sum + 1) :=
  Opn.rd_slice Try.underlying80 (by kernel_rfl) (by omega) (Opn.rd_bool Try.underlying4 (by kernel_rfl))
set_option maxRecDepth 100000 in
theorem own : ownKnob Try.prog.godebug = none := by kernel_rfl
set_option maxRecDepth 100000 in
theorem laidOut : laidOutB Try.prog = true := by kernel_rfl
set_option maxRecDepth 100000 in
theorem contract (H : Type) (enc : TypeId × Value → H) (W : World) (base : Nat) (args : Array Value) (ds gs : List (DataW H)) (before : List MemPlace)
    (hval : ∀ (j : Nat) t v, Try.f8.params[j]? = some t → args[j]? = some v → Value.okWide Try.prog W .any base t v)
    (hW : DataW.Whole enc Try.prog Try.f8.params.toList Rows.multiOrderSpec.vars false W args.toList ds gs before) :
    Calls Try.prog 8 args W fun e W' => ∃ v, e = .returned v ∧ Rows.multiOrderSpec.post enc Try.prog Try.f8 false true false false W args v W' := by
  have hW' := hW
  obtain ⟨p, q, hA0, hV, rfl, hfz, hnd⟩ := hW
  have hA : DataW.TrodAll enc Try.prog W 0 (fun _ => true) true Try.f8.params.toList args.toList ds p := hA0
  rw [Try.params8] at hA hval
  obtain ⟨rfl, rfl⟩ := trodVars_none hV
  obtain ⟨v0, vs0, d0, ds0, p0, q0, hargs, rfl, rfl, h0, r0⟩ := trodAll_cons hA
  obtain ⟨v1, vs1, d1, ds1, p1, q1, rfl, rfl, rfl, h1, r1⟩ := trodAll_cons r0
  obtain ⟨v2, vs2, d2, ds2, p2, q2, rfl, rfl, rfl, h2, r2⟩ := trodAll_cons r1
  obtain ⟨rfl, rfl, rfl⟩ := trodAll_nil r2
  obtain rfl : args = #[v0, v1, v2] := by cases args; simp_all
  obtain ⟨s, rfl, hs, _⟩ := Opn.open_sl Try.underlying45 rdQl (hval 0 _ v0 rfl rfl) h0
  obtain ⟨t, rfl, ht, _⟩ := Opn.open_sl Try.underlying80 rd_tb (hval 1 _ v1 rfl rfl) h1
  obtain ⟨q, rfl, rfl, rfl, hq⟩ := open_int Try.underlying5 (hval 2 _ v2 rfl rfl) h2
  have hw : 0 ≤ q ∧ q < 256 := by
    simp [Lit.wf, IntKind.min, IntKind.max, IntKind.signed, IntKind.bits] at hq
    omega
  refine (walk s t q W hs ht hw.1 hw.2).mono fun e W' ⟨he, bel⟩ => ?_
  subst he
  exact ⟨_, rfl, Opn.law_post laidOut (by kernel_rfl) rfl Try.underlying4 rfl rfl hW' bel⟩
set_option maxRecDepth 100000 in
theorem lifted (os : Os) (started : os.Started) (H : Type) (enc : TypeId × Value → H) :
    ReturnsInHanded {} Try.checked os 8 .any (Rows.multiOrderSpec.pre6 enc Try.prog Try.f8 Rows.multiOrderRow.domain false) (Rows.multiOrderSpec.post enc Try.prog Try.f8 false true false false) := by
  refine returnsInHanded_of_change (C := Try.checked) own started (by kernel_rfl) Try.func8
    (ChangeSpec.witness6 (enc := enc) (C := Try.checked) false ⟨#[], #[.slice none 0 0, .slice none 0 0, .int .u8 0], []⟩ 8 (by kernel_rfl) (by kernel_rfl) (by kernel_rfl) (by kernel_rfl)) ?_
  intro W base args ds gs before hval0 hW hcnd _
  exact contract H enc W base args ds gs before hval0 hW
theorem over : Rows.multiOrderRow.holds Try.pinned (OpenSpec.ofChange Rows.multiOrderSpec) :=
  OpenClaim.holds_of_wide 8 Try.f8 rfl rfl rfl rfl rfl rfl rfl ⟨rfl, rfl, rfl, rfl, rfl⟩ rfl rfl rfl rfl rfl (by kernel_rfl) Try.func8 (by kernel_rfl)
    (of_decide_eq_true (by kernel_rfl)) (by unfold Func.isWrapper; first | (rw [if_pos (by decide +kernel)]; kernel_rfl) | (rw [if_neg (by decide +kernel)]; exact ⟨rfl, rfl⟩))
    (fun os started H enc _ => lifted os started H enc)
theorem proved : Rows.MultiOrderSaid := over
end MultiOrder
end Go.Proofs.Ytgpimeobkacniaa
