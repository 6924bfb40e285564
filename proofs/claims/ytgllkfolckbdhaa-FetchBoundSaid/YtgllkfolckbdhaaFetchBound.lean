/-
  'petrellaw33.FetchBound': never more fetchings than may be, of each id one at most. For every input.
-/
import Derived.Test.YtgllkfolckbdhaaFeR
import Derived.Test.YtgllkfolckbdhaaFeP
import Derived.Test.YtgllkfolckbdhaaGRf
set_option linter.unusedVariables false
set_option linter.unusedSimpArgs false
namespace Go.Proofs.Ytgllkfolckbdhaa
open Go.RowKit Go.ChangeShapes Go.WideShapes Go.ChangeAt
open Go.ChangeMaps (open_string shut_string)
namespace FetchBound
open Oct Ids Fe
open Mem (M It blk ids rows)
/-- Bits of what was tried. -/
theorem shr_B : ∀ m : Nat, m < 64 → ∀ p : Nat, p < 6 → bits BinOp.and IntKind.i64 (((m : Nat) : Int) / 2 ^ min (IntKind.u64.wrap (p : Int)).toNat 64) 1 = if m.testBit p then 1 else 0 := by decide +kernel
set_option maxRecDepth 100000 in
set_option maxHeartbeats 16000000 in
theorem walk (q : Int) (s : Opn.Sl AQ) (w : World) (hq0 : 0 ≤ q) (hq1 : q < 256) (hs : Opn.SlAt 36 layQ factQ w s) :
    Calls Try.prog 4 #[.int .u8 q, .slice s.a s.len s.cap] w fun e w' => e = .returned (.bool true) ∧ Below w.heap.size w w' := by
  obtain ⟨hA, hL, hlc, hcm⟩ := acs_of hs
  generalize s.els.map qk = A at hA hL
  generalize s.a = a at hA ⊢
  generalize s.len = n at hA hlc ⊢
  generalize s.cap = c at hlc hcm ⊢
  have HA : Hid (St.At 36 ae w a n A) := hA
  have HL : Hid (∀ x ∈ A, AcAt w x) := hL
  have HLn : Hid (A.length = n) := hA.len
  unfold maxLen at hcm
  obtain ⟨sf, hsf⟩ : ∃ m, q % 6 = m := ⟨_, rfl⟩
  have hin : 0 ≤ sf ∧ sf < 6 := by omega
  have HN : Hid (Calls Try.prog 6 #[.int .i64 sf] w fun e w' => ∃ b b2, e = .returned (.tuple #[.pointer (some ⟨b, 0, none⟩), .int .i64 0]) ∧ M (fun _ => False) w w' [ftI b b2 (.slice none 0 0) (.slice none 0 0) [] [] 0 zeros6 sf]) := fnew w sf hin
  have HB0 : Hid (BInv [] [] zeros6 sf 0) := BInv.start hin
  have hcv : IntKind.i64.wrap q = q := IntWalk.i64_in _ (by omega)
  clear hA hL hs
  go_enter Try.func4, Try.ntmps4
  go_wp2_with (first | (go_at_call 6; refine HN.out.mono ?_; rintro e w1 ⟨b, b2, rfl, m1⟩; have HM : Hid (M (fun _ => False) w w1 [ftI b b2 (.slice none 0 0) (.slice none 0 0) [] [] 0 zeros6 sf]) := m1; clear m1))
  go_loopw [7] (fun s7 wr => ∃ (i : Nat) (lv hv : Value) (L : List Fe.Fd) (H : List (List UInt8)) (at_ : Nat) (S : List Int), i ≤ n ∧ i ≤ 60 ∧ s7 = .int .i64 i ∧ BInv L H S sf at_ ∧ M (fun _ => False) w wr [ftI b b2 lv hv L H at_ S sf]) (fun s7 _ => 60 - (intOf s7).toNat)
  case atStart => exact ⟨0, _, _, _, _, 0, _, Nat.zero_le _, Nat.zero_le _, by go_num, HB0.out, HM.out⟩
  case round =>
    clear HM HN HB0
    obtain ⟨i, lv, hv, L, H, at_, S, hi, hi60, rfl, hB, hM⟩ := hrel
    have HM : Hid (M (fun _ => False) w wr [ftI b b2 lv hv L H at_ S sf]) := hM
    have HB : Hid (BInv L H S sf at_) := hB
    clear hM hB
    by_cases hgo : i < n ∧ i < 60
    · obtain ⟨hin', hi6⟩ := hgo
      obtain ⟨x, hx⟩ : ∃ x, A[i]? = some x := ⟨_, List.getElem?_eq_getElem (by rw [HLn.out]; exact hin')⟩
      obtain ⟨g0, o0, e0, hg0, hr0⟩ := HA.out.lay.resolve_left (by omega)
      subst e0
      have R1 : Hid (wr.rangeAt g0 (o0 + i * 36) (ae x)) := HM.out.keep.range hg0 (fun h => h) (hr0 i x hx)
      have HX : Hid (AcAt w x) := HL.out x (List.mem_of_getElem? hx)
      have HXl : Hid (x.il.length = x.iN) := HX.out.1.len
      have hxm := HX.out.1.most
      unfold maxLen at hxm
      have HM2 : Hid (M (fun _ => False) w _ [ftI b b2 lv hv L H at_ S sf, blk wr.heap.size (.cells (ae x).toArray 34)]) := HM.out.alloc (.cells (ae x).toArray 34) rfl
      have d0 := HM2.out.cell 1 rfl 0 (v := .int .i64 x.K) rfl
      have d1 := HM2.out.cell 1 rfl 1 (v := .slice x.ia x.iN x.ic) rfl
      clear hr0 hx hg0
      obtain ⟨kk, hkk⟩ : ∃ k, x.K = k := ⟨_, rfl⟩
      rw [hkk] at d0
      clear hkk
      by_cases h20 : 20 < x.iN
      · go_wp2_with (first | ((with_reducible refine at_dst 40 ?_); refine St.wl_load tyQ rfl rfl rfl R1.out (ae_len x) ?_; simp only [Act.put, List.setIfInBounds_toArray, List.set_cons_zero, List.set_cons_succ]) | ((with_reducible refine at_alloc 34 ?_); refine St.wl_alloc tyQ rfl rfl (by (try simp only [World.size_alloc]); rfl) ?_; simp only [Act.put, List.setIfInBounds_toArray, List.set_cons_zero, List.set_cons_succ]) | ((with_reducible refine at_store 34 ?_); refine St.wl_storeN (W := wr) tyQ rfl rfl rfl rfl rfl (by (try simp only [World.size_alloc])) (show _ = Value.agg (ae x).toArray from rfl) (by rw [List.size_toArray, ae_len]) rfl (encA.all x) ?_))
        go_roundw
        case rel => exact ⟨i + 1, lv, hv, L, H, at_, S, by omega, by omega, by go_num, HB.out, HM2.out.take 1⟩
        case measure => simp [intOf]; omega
      · have hxi : x.iN ≤ 20 := by omega
        have hxl : x.il.length ≤ 20 := by rw [HXl.out]; exact hxi
        have R2 : Hid (World.rangeAt _ wr.heap.size 2 (x.u.map bv)) := rng_qu (HM2.out.range 1 rfl)
        have HU : Hid (x.u.length = 32) := x.hu
        have d34 := HM2.out.cell 1 rfl 34 (v := .int .i64 x.f) (by rw [List.getElem?_toArray]; exact ae_f)
        have d35 := HM2.out.cell 1 rfl 35 (v := .int .i64 x.now) (by rw [List.getElem?_toArray]; exact ae_n)
        have HAt : Hid (∀ w', Keep (fun _ => False) w w' → Ids.At w' x.ia x.iN x.il) := fun w' k => HX.out.1.calm k
        have HM : Hid (M (fun _ => False) w _ [ftI b b2 lv hv L H at_ S sf, blk wr.heap.size (.cells (ae x).toArray 34)]) := HM2.out
        clear h20
        rcases (show kk = 2 ∨ kk = 3 ∨ kk = 4 ∨ kk = 5 ∨ (kk ≠ 2 ∧ kk ≠ 3 ∧ kk ≠ 4 ∧ kk ≠ 5) by omega) with rfl | rfl | rfl | rfl | ⟨k2, k3, k4, k5⟩
        · go_wp2_with (first | ((with_reducible refine at_dst 40 ?_); refine St.wl_load tyQ rfl rfl rfl R1.out (ae_len x) ?_; simp only [Act.put, List.setIfInBounds_toArray, List.set_cons_zero, List.set_cons_succ]) | ((with_reducible refine at_alloc 34 ?_); refine St.wl_alloc tyQ rfl rfl (by (try simp only [World.size_alloc]); rfl) ?_; simp only [Act.put, List.setIfInBounds_toArray, List.set_cons_zero, List.set_cons_succ]) | ((with_reducible refine at_store 34 ?_); refine St.wl_storeN (W := wr) tyQ rfl rfl rfl rfl rfl (by (try simp only [World.size_alloc])) (show _ = Value.agg (ae x).toArray from rfl) (by rw [List.size_toArray, ae_len]) rfl (encA.all x) ?_) | (go_at_call 19; refine (fall _ b b2 lv hv L1 H at_ S sf (HM.out.get 0 rfl) (by have := HB.out.len; omega) (by have := HB.out.hl; omega)).mono ?_; rintro e w7 ⟨v7, rfl, m7⟩; have HM : Hid (M (fun _ => False) w w7 [ftI b b2 lv hv L1 H at_ S sf, blk wr.heap.size (.cells (ae x).toArray 34), rF v7 ((L1).map (toldX H))]) := HM.out.add (x := rF v7 ((L1).map (toldX H))) m7.keep (m7.get 0 rfl) (fun k hk => ⟨(m7.rng 0 _ rfl k hk).1.resolve_right (fun h => h), (m7.rng 0 _ rfl k hk).2⟩); clear m7) | ((with_reducible refine at_load 32 ?_); refine Ids.wl_load rfl rfl rfl HU.out R2.out ?_; simp only [Act.put, List.setIfInBounds_toArray, List.set_cons_zero, List.set_cons_succ]) | (go_at_call 13; refine (fhave _ b b2 lv hv L H at_ S sf (HM.out.get 0 rfl) (by have := HB.out.len; omega) x.u HU.out x.f x.now).mono ?_; rintro e w5 ⟨⟨r, L1, rfl, hc, t⟩⟩; have HM : Hid (M (fun _ => False) w w5 [ftI b b2 lv hv L1 H at_ S sf, blk wr.heap.size (.cells (ae x).toArray 34)]) := M.fto HM.out 0 rfl t; have HB : Hid (BInv L1 H S sf at_) := HB.out.chg hc HB.out.sc; clear t hc d0 d1 d34 d35 HM2 R2))
          obtain ⟨D, hD⟩ : ∃ D, (L1).map (toldX H) = D := ⟨_, rfl⟩
          have HDl : Hid (D.length ≤ 8) := by show _ ≤ _; rw [← hD, List.length_map]; exact HB.out.len
          have HDn : Hid ((D.map (·.u)).Nodup) := by show List.Nodup _; rw [← hD, List.map_map]; exact HB.out.nd
          rw [hD] at HM
          clear hD
          obtain ⟨va, vc, e7, _⟩ := (show OwnF _ v7 D from HM.out.get 2 rfl).any
          obtain ⟨nd, hnd⟩ : ∃ m, D.length = m := ⟨_, rfl⟩
          have Hnd : Hid (D.length = nd) := hnd
          rw [hnd] at e7
          subst e7
          have hnd8 : nd ≤ 8 := by rw [← hnd]; exact HDl.out
          clear hnd
          have HM : Hid (M (fun _ => False) w w7 [ftI b b2 lv hv L1 H at_ S sf, rF (.slice va nd vc) D, ids (.slice none 0 0) []]) := (HM.out.sub [ftI b b2 lv hv L1 H at_ S sf, rF (.slice va nd vc) D] [0, 2] (by decide) rfl).nilI
          go_loopw [12, 13] (fun s12 s13 wr => ∃ (k : Nat) (v : Value), k ≤ nd ∧ s12 = v ∧ s13 = .int .i64 k ∧ M (fun _ => False) w wr [ftI b b2 lv hv L1 H at_ S sf, rF (.slice va nd vc) D, ids v ((D.take k).map (·.u))]) (fun _ s13 _ => nd - (intOf s13).toNat)
          case atStart => exact ⟨0, _, Nat.zero_le _, rfl, by go_num, HM.out⟩
          case round =>
            clear HM
            obtain ⟨k, v, hk, e12, rfl, hM⟩ := hrel
            replace e12 := e12.symm
            subst e12
            have HM : Hid (M (fun _ => False) w wr [ftI b b2 lv hv L1 H at_ S sf, rF (.slice va nd vc) D, ids v ((D.take k).map (·.u))]) := hM
            clear hM
            by_cases hlt : k < nd
            · obtain ⟨y, hy⟩ : ∃ y, D[k]? = some y := ⟨_, List.getElem?_eq_getElem (by rw [Hnd.out]; exact hlt)⟩
              obtain ⟨g1, o1, e1, _, hr1⟩ := (St.Own.slice (show OwnF wr (.slice va nd vc) D from HM.out.get 1 rfl)).2.lay.resolve_left (by have := Hnd.out; omega)
              subst e1
              have R3 : Hid (wr.rangeAt g1 (o1 + k * 37) (y.u.map bv)) := fe_rng (hr1 k y hy)
              have HYu : Hid (y.u.length = 32) := y.hu
              have HSt : Hid ((D.take (k + 1)).map (·.u) = (D.take k).map (·.u) ++ [y.u]) := by show _ = _; rw [List.take_add_one, hy, List.map_append]; rfl
              have HLl : Hid (((D.take k).map (·.u)).length ≤ 100) := by show _ ≤ _; rw [List.length_map, List.length_take]; omega
              clear hr1 hy
              go_wp2_with (first | ((with_reducible refine at_load 32 ?_); refine Ids.wl_load rfl rfl rfl HYu.out R3.out ?_; simp only [Act.put, List.setIfInBounds_toArray, List.set_cons_zero, List.set_cons_succ]) | (refine Ids.wl_build rfl rfl HYu.out rfl ?_; have HM : Hid _ := HM.out.alloc (.cells (y.u.map bv).toArray 32) (by first | rfl | simp only [World.size_alloc]); simp only [Act.put, List.setIfInBounds_toArray, List.set_cons_zero, List.set_cons_succ]) | (refine Ids.wl_app1 rfl rfl rfl (HM.out.get 2 rfl) rfl HYu.out (HM.out.get 3 rfl) (by have := HLl.out; omega) ?_; intro v4 w4 h4 k4 g4; have HM : Hid _ := HM.out.appI 2 rfl h4 k4 g4; clear h4 k4 g4; simp only [Act.put, List.setIfInBounds_toArray, List.set_cons_zero, List.set_cons_succ]))
              go_roundw
              case rel => exact ⟨k + 1, _, by omega, rfl, by go_num, by rw [HSt.out]; exact HM.out.take 3⟩
              case measure => simp [intOf]; omega
            · obtain rfl : k = nd := by omega
              have eT : (D.take k).map (·.u) = D.map (·.u) := by rw [List.take_of_length_le (by rw [Hnd.out]; exact Nat.le_refl _)]
              rw [eT] at HM
              clear eT
              obtain ⟨E, hE⟩ : ∃ E, D.map (·.u) = E := ⟨_, rfl⟩
              have HEl : Hid (E.length = k) := by show _ = _; rw [← hE, List.length_map]; exact Hnd.out
              have HEs : Hid ((IdL.setL E).length = k) := by show _ = _; rw [setL_len_of (by rw [← hE]; exact HDn.out)]; exact HEl.out
              rw [hE] at HM
              obtain ⟨ea, ec, e8, _⟩ := (show Ids.Own _ v E from HM.out.get 2 rfl).at
              rw [HEl.out] at e8
              subst e8
              clear hE
              go_wp2_with (first | (go_at_call 20; refine (xset_any _ ea k ec E (own_idat (HM.out.get 2 rfl)) (by omega)).mono ?_; rintro e w8 ⟨v8, rfl, n8⟩; obtain ⟨a8, c8, e8, _, _⟩ := n8.1.at; rw [HEs.out] at e8; subst e8; have HM : Hid _ := HM.out.calm n8.2.1; clear n8))
              go_roundw
              case rel => exact ⟨i + 1, _, _, _, _, _, _, by omega, by omega, by go_num, HB.out, HM.out.take 1⟩
              case measure => simp [intOf]; omega
        · go_wp2_with (first | ((with_reducible refine at_dst 40 ?_); refine St.wl_load tyQ rfl rfl rfl R1.out (ae_len x) ?_; simp only [Act.put, List.setIfInBounds_toArray, List.set_cons_zero, List.set_cons_succ]) | ((with_reducible refine at_alloc 34 ?_); refine St.wl_alloc tyQ rfl rfl (by (try simp only [World.size_alloc]); rfl) ?_; simp only [Act.put, List.setIfInBounds_toArray, List.set_cons_zero, List.set_cons_succ]) | ((with_reducible refine at_store 34 ?_); refine St.wl_storeN (W := wr) tyQ rfl rfl rfl rfl rfl (by (try simp only [World.size_alloc])) (show _ = Value.agg (ae x).toArray from rfl) (by rw [List.size_toArray, ae_len]) rfl (encA.all x) ?_) | (go_at_call 19; refine (fall _ b b2 lv hv L1 H at_ S sf (HM.out.get 0 rfl) (by have := HB.out.len; omega) (by have := HB.out.hl; omega)).mono ?_; rintro e w7 ⟨v7, rfl, m7⟩; have HM : Hid (M (fun _ => False) w w7 [ftI b b2 lv hv L1 H at_ S sf, blk wr.heap.size (.cells (ae x).toArray 34), rF v7 ((L1).map (toldX H))]) := HM.out.add (x := rF v7 ((L1).map (toldX H))) m7.keep (m7.get 0 rfl) (fun k hk => ⟨(m7.rng 0 _ rfl k hk).1.resolve_right (fun h => h), (m7.rng 0 _ rfl k hk).2⟩); clear m7) | ((with_reducible refine at_load 32 ?_); refine Ids.wl_load rfl rfl rfl HU.out R2.out ?_; simp only [Act.put, List.setIfInBounds_toArray, List.set_cons_zero, List.set_cons_succ]) | (go_at_call 14; refine (fdeny _ b b2 lv hv L H at_ S sf (HM.out.get 0 rfl) (by have := HB.out.len; omega) x.u HU.out x.f x.now).mono ?_; rintro e w5 ⟨⟨r, L1, rfl, hc, t⟩⟩; have HM : Hid (M (fun _ => False) w w5 [ftI b b2 lv hv L1 H at_ S sf, blk wr.heap.size (.cells (ae x).toArray 34)]) := M.fto HM.out 0 rfl t; have HB : Hid (BInv L1 H S sf at_) := HB.out.chg hc HB.out.sc; clear t hc d0 d1 d34 d35 HM2 R2))
          obtain ⟨D, hD⟩ : ∃ D, (L1).map (toldX H) = D := ⟨_, rfl⟩
          have HDl : Hid (D.length ≤ 8) := by show _ ≤ _; rw [← hD, List.length_map]; exact HB.out.len
          have HDn : Hid ((D.map (·.u)).Nodup) := by show List.Nodup _; rw [← hD, List.map_map]; exact HB.out.nd
          rw [hD] at HM
          clear hD
          obtain ⟨va, vc, e7, _⟩ := (show OwnF _ v7 D from HM.out.get 2 rfl).any
          obtain ⟨nd, hnd⟩ : ∃ m, D.length = m := ⟨_, rfl⟩
          have Hnd : Hid (D.length = nd) := hnd
          rw [hnd] at e7
          subst e7
          have hnd8 : nd ≤ 8 := by rw [← hnd]; exact HDl.out
          clear hnd
          have HM : Hid (M (fun _ => False) w w7 [ftI b b2 lv hv L1 H at_ S sf, rF (.slice va nd vc) D, ids (.slice none 0 0) []]) := (HM.out.sub [ftI b b2 lv hv L1 H at_ S sf, rF (.slice va nd vc) D] [0, 2] (by decide) rfl).nilI
          go_loopw [12, 13] (fun s12 s13 wr => ∃ (k : Nat) (v : Value), k ≤ nd ∧ s12 = v ∧ s13 = .int .i64 k ∧ M (fun _ => False) w wr [ftI b b2 lv hv L1 H at_ S sf, rF (.slice va nd vc) D, ids v ((D.take k).map (·.u))]) (fun _ s13 _ => nd - (intOf s13).toNat)
          case atStart => exact ⟨0, _, Nat.zero_le _, rfl, by go_num, HM.out⟩
          case round =>
            clear HM
            obtain ⟨k, v, hk, e12, rfl, hM⟩ := hrel
            replace e12 := e12.symm
            subst e12
            have HM : Hid (M (fun _ => False) w wr [ftI b b2 lv hv L1 H at_ S sf, rF (.slice va nd vc) D, ids v ((D.take k).map (·.u))]) := hM
            clear hM
            by_cases hlt : k < nd
            · obtain ⟨y, hy⟩ : ∃ y, D[k]? = some y := ⟨_, List.getElem?_eq_getElem (by rw [Hnd.out]; exact hlt)⟩
              obtain ⟨g1, o1, e1, _, hr1⟩ := (St.Own.slice (show OwnF wr (.slice va nd vc) D from HM.out.get 1 rfl)).2.lay.resolve_left (by have := Hnd.out; omega)
              subst e1
              have R3 : Hid (wr.rangeAt g1 (o1 + k * 37) (y.u.map bv)) := fe_rng (hr1 k y hy)
              have HYu : Hid (y.u.length = 32) := y.hu
              have HSt : Hid ((D.take (k + 1)).map (·.u) = (D.take k).map (·.u) ++ [y.u]) := by show _ = _; rw [List.take_add_one, hy, List.map_append]; rfl
              have HLl : Hid (((D.take k).map (·.u)).length ≤ 100) := by show _ ≤ _; rw [List.length_map, List.length_take]; omega
              clear hr1 hy
              go_wp2_with (first | ((with_reducible refine at_load 32 ?_); refine Ids.wl_load rfl rfl rfl HYu.out R3.out ?_; simp only [Act.put, List.setIfInBounds_toArray, List.set_cons_zero, List.set_cons_succ]) | (refine Ids.wl_build rfl rfl HYu.out rfl ?_; have HM : Hid _ := HM.out.alloc (.cells (y.u.map bv).toArray 32) (by first | rfl | simp only [World.size_alloc]); simp only [Act.put, List.setIfInBounds_toArray, List.set_cons_zero, List.set_cons_succ]) | (refine Ids.wl_app1 rfl rfl rfl (HM.out.get 2 rfl) rfl HYu.out (HM.out.get 3 rfl) (by have := HLl.out; omega) ?_; intro v4 w4 h4 k4 g4; have HM : Hid _ := HM.out.appI 2 rfl h4 k4 g4; clear h4 k4 g4; simp only [Act.put, List.setIfInBounds_toArray, List.set_cons_zero, List.set_cons_succ]))
              go_roundw
              case rel => exact ⟨k + 1, _, by omega, rfl, by go_num, by rw [HSt.out]; exact HM.out.take 3⟩
              case measure => simp [intOf]; omega
            · obtain rfl : k = nd := by omega
              have eT : (D.take k).map (·.u) = D.map (·.u) := by rw [List.take_of_length_le (by rw [Hnd.out]; exact Nat.le_refl _)]
              rw [eT] at HM
              clear eT
              obtain ⟨E, hE⟩ : ∃ E, D.map (·.u) = E := ⟨_, rfl⟩
              have HEl : Hid (E.length = k) := by show _ = _; rw [← hE, List.length_map]; exact Hnd.out
              have HEs : Hid ((IdL.setL E).length = k) := by show _ = _; rw [setL_len_of (by rw [← hE]; exact HDn.out)]; exact HEl.out
              rw [hE] at HM
              obtain ⟨ea, ec, e8, _⟩ := (show Ids.Own _ v E from HM.out.get 2 rfl).at
              rw [HEl.out] at e8
              subst e8
              clear hE
              go_wp2_with (first | (go_at_call 20; refine (xset_any _ ea k ec E (own_idat (HM.out.get 2 rfl)) (by omega)).mono ?_; rintro e w8 ⟨v8, rfl, n8⟩; obtain ⟨a8, c8, e8, _, _⟩ := n8.1.at; rw [HEs.out] at e8; subst e8; have HM : Hid _ := HM.out.calm n8.2.1; clear n8))
              go_roundw
              case rel => exact ⟨i + 1, _, _, _, _, _, _, by omega, by omega, by go_num, HB.out, HM.out.take 1⟩
              case measure => simp [intOf]; omega
        · go_wp2_with (first | ((with_reducible refine at_dst 40 ?_); refine St.wl_load tyQ rfl rfl rfl R1.out (ae_len x) ?_; simp only [Act.put, List.setIfInBounds_toArray, List.set_cons_zero, List.set_cons_succ]) | ((with_reducible refine at_alloc 34 ?_); refine St.wl_alloc tyQ rfl rfl (by (try simp only [World.size_alloc]); rfl) ?_; simp only [Act.put, List.setIfInBounds_toArray, List.set_cons_zero, List.set_cons_succ]) | ((with_reducible refine at_store 34 ?_); refine St.wl_storeN (W := wr) tyQ rfl rfl rfl rfl rfl (by (try simp only [World.size_alloc])) (show _ = Value.agg (ae x).toArray from rfl) (by rw [List.size_toArray, ae_len]) rfl (encA.all x) ?_) | (go_at_call 19; refine (fall _ b b2 lv hv L1 H at_ S1 sf (HM.out.get 0 rfl) (by have := HB.out.len; omega) (by have := HB.out.hl; omega)).mono ?_; rintro e w7 ⟨v7, rfl, m7⟩; have HM : Hid (M (fun _ => False) w w7 [ftI b b2 lv hv L1 H at_ S1 sf, blk wr.heap.size (.cells (ae x).toArray 34), rF v7 ((L1).map (toldX H))]) := HM.out.add (x := rF v7 ((L1).map (toldX H))) m7.keep (m7.get 0 rfl) (fun k hk => ⟨(m7.rng 0 _ rfl k hk).1.resolve_right (fun h => h), (m7.rng 0 _ rfl k hk).2⟩); clear m7) | (go_at_call 15; refine (fwrong _ b b2 lv hv L H at_ S sf (HM.out.get 0 rfl) (by have := HB.out.len; omega) HB.out.sc x.f x.now).mono ?_; rintro e w5 ⟨⟨r, L1, S1, rfl, hc, hS, t⟩⟩; have HM : Hid (M (fun _ => False) w w5 [ftI b b2 lv hv L1 H at_ S1 sf, blk wr.heap.size (.cells (ae x).toArray 34)]) := M.fto HM.out 0 rfl t; have HB : Hid (BInv L1 H S1 sf at_) := HB.out.chg hc hS; clear t hc hS d0 d1 d34 d35 HM2 R2))
          obtain ⟨D, hD⟩ : ∃ D, (L1).map (toldX H) = D := ⟨_, rfl⟩
          have HDl : Hid (D.length ≤ 8) := by show _ ≤ _; rw [← hD, List.length_map]; exact HB.out.len
          have HDn : Hid ((D.map (·.u)).Nodup) := by show List.Nodup _; rw [← hD, List.map_map]; exact HB.out.nd
          rw [hD] at HM
          clear hD
          obtain ⟨va, vc, e7, _⟩ := (show OwnF _ v7 D from HM.out.get 2 rfl).any
          obtain ⟨nd, hnd⟩ : ∃ m, D.length = m := ⟨_, rfl⟩
          have Hnd : Hid (D.length = nd) := hnd
          rw [hnd] at e7
          subst e7
          have hnd8 : nd ≤ 8 := by rw [← hnd]; exact HDl.out
          clear hnd
          have HM : Hid (M (fun _ => False) w w7 [ftI b b2 lv hv L1 H at_ S1 sf, rF (.slice va nd vc) D, ids (.slice none 0 0) []]) := (HM.out.sub [ftI b b2 lv hv L1 H at_ S1 sf, rF (.slice va nd vc) D] [0, 2] (by decide) rfl).nilI
          go_loopw [12, 13] (fun s12 s13 wr => ∃ (k : Nat) (v : Value), k ≤ nd ∧ s12 = v ∧ s13 = .int .i64 k ∧ M (fun _ => False) w wr [ftI b b2 lv hv L1 H at_ S1 sf, rF (.slice va nd vc) D, ids v ((D.take k).map (·.u))]) (fun _ s13 _ => nd - (intOf s13).toNat)
          case atStart => exact ⟨0, _, Nat.zero_le _, rfl, by go_num, HM.out⟩
          case round =>
            clear HM
            obtain ⟨k, v, hk, e12, rfl, hM⟩ := hrel
            replace e12 := e12.symm
            subst e12
            have HM : Hid (M (fun _ => False) w wr [ftI b b2 lv hv L1 H at_ S1 sf, rF (.slice va nd vc) D, ids v ((D.take k).map (·.u))]) := hM
            clear hM
            by_cases hlt : k < nd
            · obtain ⟨y, hy⟩ : ∃ y, D[k]? = some y := ⟨_, List.getElem?_eq_getElem (by rw [Hnd.out]; exact hlt)⟩
              obtain ⟨g1, o1, e1, _, hr1⟩ := (St.Own.slice (show OwnF wr (.slice va nd vc) D from HM.out.get 1 rfl)).2.lay.resolve_left (by have := Hnd.out; omega)
              subst e1
              have R3 : Hid (wr.rangeAt g1 (o1 + k * 37) (y.u.map bv)) := fe_rng (hr1 k y hy)
              have HYu : Hid (y.u.length = 32) := y.hu
              have HSt : Hid ((D.take (k + 1)).map (·.u) = (D.take k).map (·.u) ++ [y.u]) := by show _ = _; rw [List.take_add_one, hy, List.map_append]; rfl
              have HLl : Hid (((D.take k).map (·.u)).length ≤ 100) := by show _ ≤ _; rw [List.length_map, List.length_take]; omega
              clear hr1 hy
              go_wp2_with (first | ((with_reducible refine at_load 32 ?_); refine Ids.wl_load rfl rfl rfl HYu.out R3.out ?_; simp only [Act.put, List.setIfInBounds_toArray, List.set_cons_zero, List.set_cons_succ]) | (refine Ids.wl_build rfl rfl HYu.out rfl ?_; have HM : Hid _ := HM.out.alloc (.cells (y.u.map bv).toArray 32) (by first | rfl | simp only [World.size_alloc]); simp only [Act.put, List.setIfInBounds_toArray, List.set_cons_zero, List.set_cons_succ]) | (refine Ids.wl_app1 rfl rfl rfl (HM.out.get 2 rfl) rfl HYu.out (HM.out.get 3 rfl) (by have := HLl.out; omega) ?_; intro v4 w4 h4 k4 g4; have HM : Hid _ := HM.out.appI 2 rfl h4 k4 g4; clear h4 k4 g4; simp only [Act.put, List.setIfInBounds_toArray, List.set_cons_zero, List.set_cons_succ]))
              go_roundw
              case rel => exact ⟨k + 1, _, by omega, rfl, by go_num, by rw [HSt.out]; exact HM.out.take 3⟩
              case measure => simp [intOf]; omega
            · obtain rfl : k = nd := by omega
              have eT : (D.take k).map (·.u) = D.map (·.u) := by rw [List.take_of_length_le (by rw [Hnd.out]; exact Nat.le_refl _)]
              rw [eT] at HM
              clear eT
              obtain ⟨E, hE⟩ : ∃ E, D.map (·.u) = E := ⟨_, rfl⟩
              have HEl : Hid (E.length = k) := by show _ = _; rw [← hE, List.length_map]; exact Hnd.out
              have HEs : Hid ((IdL.setL E).length = k) := by show _ = _; rw [setL_len_of (by rw [← hE]; exact HDn.out)]; exact HEl.out
              rw [hE] at HM
              obtain ⟨ea, ec, e8, _⟩ := (show Ids.Own _ v E from HM.out.get 2 rfl).at
              rw [HEl.out] at e8
              subst e8
              clear hE
              go_wp2_with (first | (go_at_call 20; refine (xset_any _ ea k ec E (own_idat (HM.out.get 2 rfl)) (by omega)).mono ?_; rintro e w8 ⟨v8, rfl, n8⟩; obtain ⟨a8, c8, e8, _, _⟩ := n8.1.at; rw [HEs.out] at e8; subst e8; have HM : Hid _ := HM.out.calm n8.2.1; clear n8))
              go_roundw
              case rel => exact ⟨i + 1, _, _, _, _, _, _, by omega, by omega, by go_num, HB.out, HM.out.take 1⟩
              case measure => simp [intOf]; omega
        · have HAp : Hid (Apart b b2 lv hv x.ia x.iN) := fun g o e h0 hf => by
            have h1 := (HM.out.rng 0 _ rfl g hf).1.resolve_right (fun h => h)
            obtain ⟨g', o', e', hl, _⟩ := (HAt.out w (Keep.refl _ _)).lay.resolve_left h0
            rw [e] at e'
            cases e'
            omega
          go_wp2_with (first | ((with_reducible refine at_dst 40 ?_); refine St.wl_load tyQ rfl rfl rfl R1.out (ae_len x) ?_; simp only [Act.put, List.setIfInBounds_toArray, List.set_cons_zero, List.set_cons_succ]) | ((with_reducible refine at_alloc 34 ?_); refine St.wl_alloc tyQ rfl rfl (by (try simp only [World.size_alloc]); rfl) ?_; simp only [Act.put, List.setIfInBounds_toArray, List.set_cons_zero, List.set_cons_succ]) | ((with_reducible refine at_store 34 ?_); refine St.wl_storeN (W := wr) tyQ rfl rfl rfl rfl rfl (by (try simp only [World.size_alloc])) (show _ = Value.agg (ae x).toArray from rfl) (by rw [List.size_toArray, ae_len]) rfl (encA.all x) ?_) | (go_at_call 19; refine (fall _ b b2 lv1 hv1 (L.filter fun y => !inL x.il y) (H.filter fun u => !inH x.il u) at_ S1 sf (HM.out.get 0 rfl) (by have := HB.out.len; omega) (by have := HB.out.hl; omega)).mono ?_; rintro e w7 ⟨v7, rfl, m7⟩; have HM : Hid (M (fun _ => False) w w7 [ftI b b2 lv1 hv1 (L.filter fun y => !inL x.il y) (H.filter fun u => !inH x.il u) at_ S1 sf, blk wr.heap.size (.cells (ae x).toArray 34), rF v7 (((L.filter fun y => !inL x.il y)).map (toldX (H.filter fun u => !inH x.il u)))]) := HM.out.add (x := rF v7 (((L.filter fun y => !inL x.il y)).map (toldX (H.filter fun u => !inH x.il u)))) m7.keep (m7.get 0 rfl) (fun k hk => ⟨(m7.rng 0 _ rfl k hk).1.resolve_right (fun h => h), (m7.rng 0 _ rfl k hk).2⟩); clear m7) | (go_at_call 16; refine (fdone _ b b2 lv hv L H at_ S sf (HM.out.get 0 rfl) (by have := HB.out.len; omega) (by have := HB.out.hl; omega) HB.out.sc x.ia x.iN x.ic x.il (HAt.out _ HM.out.keep) (by omega) HAp.out x.f).mono ?_; rintro e w5 ⟨⟨r, S1, lv1, hv1, rfl, hS, t⟩⟩; have HM : Hid (M (fun _ => False) w w5 [ftI b b2 lv1 hv1 (L.filter fun y => !inL x.il y) (H.filter fun u => !inH x.il u) at_ S1 sf, blk wr.heap.size (.cells (ae x).toArray 34)]) := M.fto HM.out 0 rfl t; have HB : Hid (BInv (L.filter fun y => !inL x.il y) (H.filter fun u => !inH x.il u) S1 sf at_) := HB.out.filter _ _ hS; clear t hS d0 d1 d34 d35 HM2 R2))
          obtain ⟨D, hD⟩ : ∃ D, ((L.filter fun y => !inL x.il y)).map (toldX (H.filter fun u => !inH x.il u)) = D := ⟨_, rfl⟩
          have HDl : Hid (D.length ≤ 8) := by show _ ≤ _; rw [← hD, List.length_map]; exact HB.out.len
          have HDn : Hid ((D.map (·.u)).Nodup) := by show List.Nodup _; rw [← hD, List.map_map]; exact HB.out.nd
          rw [hD] at HM
          clear hD
          obtain ⟨va, vc, e7, _⟩ := (show OwnF _ v7 D from HM.out.get 2 rfl).any
          obtain ⟨nd, hnd⟩ : ∃ m, D.length = m := ⟨_, rfl⟩
          have Hnd : Hid (D.length = nd) := hnd
          rw [hnd] at e7
          subst e7
          have hnd8 : nd ≤ 8 := by rw [← hnd]; exact HDl.out
          clear hnd
          have HM : Hid (M (fun _ => False) w w7 [ftI b b2 lv1 hv1 (L.filter fun y => !inL x.il y) (H.filter fun u => !inH x.il u) at_ S1 sf, rF (.slice va nd vc) D, ids (.slice none 0 0) []]) := (HM.out.sub [ftI b b2 lv1 hv1 (L.filter fun y => !inL x.il y) (H.filter fun u => !inH x.il u) at_ S1 sf, rF (.slice va nd vc) D] [0, 2] (by decide) rfl).nilI
          go_loopw [12, 13] (fun s12 s13 wr => ∃ (k : Nat) (v : Value), k ≤ nd ∧ s12 = v ∧ s13 = .int .i64 k ∧ M (fun _ => False) w wr [ftI b b2 lv1 hv1 (L.filter fun y => !inL x.il y) (H.filter fun u => !inH x.il u) at_ S1 sf, rF (.slice va nd vc) D, ids v ((D.take k).map (·.u))]) (fun _ s13 _ => nd - (intOf s13).toNat)
          case atStart => exact ⟨0, _, Nat.zero_le _, rfl, by go_num, HM.out⟩
          case round =>
            clear HM
            obtain ⟨k, v, hk, e12, rfl, hM⟩ := hrel
            replace e12 := e12.symm
            subst e12
            have HM : Hid (M (fun _ => False) w wr [ftI b b2 lv1 hv1 (L.filter fun y => !inL x.il y) (H.filter fun u => !inH x.il u) at_ S1 sf, rF (.slice va nd vc) D, ids v ((D.take k).map (·.u))]) := hM
            clear hM
            by_cases hlt : k < nd
            · obtain ⟨y, hy⟩ : ∃ y, D[k]? = some y := ⟨_, List.getElem?_eq_getElem (by rw [Hnd.out]; exact hlt)⟩
              obtain ⟨g1, o1, e1, _, hr1⟩ := (St.Own.slice (show OwnF wr (.slice va nd vc) D from HM.out.get 1 rfl)).2.lay.resolve_left (by have := Hnd.out; omega)
              subst e1
              have R3 : Hid (wr.rangeAt g1 (o1 + k * 37) (y.u.map bv)) := fe_rng (hr1 k y hy)
              have HYu : Hid (y.u.length = 32) := y.hu
              have HSt : Hid ((D.take (k + 1)).map (·.u) = (D.take k).map (·.u) ++ [y.u]) := by show _ = _; rw [List.take_add_one, hy, List.map_append]; rfl
              have HLl : Hid (((D.take k).map (·.u)).length ≤ 100) := by show _ ≤ _; rw [List.length_map, List.length_take]; omega
              clear hr1 hy
              go_wp2_with (first | ((with_reducible refine at_load 32 ?_); refine Ids.wl_load rfl rfl rfl HYu.out R3.out ?_; simp only [Act.put, List.setIfInBounds_toArray, List.set_cons_zero, List.set_cons_succ]) | (refine Ids.wl_build rfl rfl HYu.out rfl ?_; have HM : Hid _ := HM.out.alloc (.cells (y.u.map bv).toArray 32) (by first | rfl | simp only [World.size_alloc]); simp only [Act.put, List.setIfInBounds_toArray, List.set_cons_zero, List.set_cons_succ]) | (refine Ids.wl_app1 rfl rfl rfl (HM.out.get 2 rfl) rfl HYu.out (HM.out.get 3 rfl) (by have := HLl.out; omega) ?_; intro v4 w4 h4 k4 g4; have HM : Hid _ := HM.out.appI 2 rfl h4 k4 g4; clear h4 k4 g4; simp only [Act.put, List.setIfInBounds_toArray, List.set_cons_zero, List.set_cons_succ]))
              go_roundw
              case rel => exact ⟨k + 1, _, by omega, rfl, by go_num, by rw [HSt.out]; exact HM.out.take 3⟩
              case measure => simp [intOf]; omega
            · obtain rfl : k = nd := by omega
              have eT : (D.take k).map (·.u) = D.map (·.u) := by rw [List.take_of_length_le (by rw [Hnd.out]; exact Nat.le_refl _)]
              rw [eT] at HM
              clear eT
              obtain ⟨E, hE⟩ : ∃ E, D.map (·.u) = E := ⟨_, rfl⟩
              have HEl : Hid (E.length = k) := by show _ = _; rw [← hE, List.length_map]; exact Hnd.out
              have HEs : Hid ((IdL.setL E).length = k) := by show _ = _; rw [setL_len_of (by rw [← hE]; exact HDn.out)]; exact HEl.out
              rw [hE] at HM
              obtain ⟨ea, ec, e8, _⟩ := (show Ids.Own _ v E from HM.out.get 2 rfl).at
              rw [HEl.out] at e8
              subst e8
              clear hE
              go_wp2_with (first | (go_at_call 20; refine (xset_any _ ea k ec E (own_idat (HM.out.get 2 rfl)) (by omega)).mono ?_; rintro e w8 ⟨v8, rfl, n8⟩; obtain ⟨a8, c8, e8, _, _⟩ := n8.1.at; rw [HEs.out] at e8; subst e8; have HM : Hid _ := HM.out.calm n8.2.1; clear n8))
              go_roundw
              case rel => exact ⟨i + 1, _, _, _, _, _, _, by omega, by omega, by go_num, HB.out, HM.out.take 1⟩
              case measure => simp [intOf]; omega
        · obtain ⟨r, hr⟩ : ∃ r, roundR sf (clk x.now) (onceL x.il) S H L at_ = r := ⟨_, rfl⟩
          obtain ⟨a2, ha2⟩ : ∃ a2, (L2of (onceL x.il) (clk x.now) L at_).2 = a2 := ⟨_, rfl⟩
          have HR : Hid (roundR sf (clk x.now) (onceL x.il) S H L at_ = r ∧ (L2of (onceL x.il) (clk x.now) L at_).2 = a2) := ⟨hr, ha2⟩
          have hBr := HB.out.round (clk x.now) hxl
          rw [hr, ha2] at hBr
          have HBn : Hid (BInv r.left r.H r.S sf a2) := hBr.1
          have HAk : Hid (∀ y ∈ r.asked, AskOk sf y ∧ y.u ∈ x.il) := hBr.2
          clear hBr hr ha2
          go_wp2_with (first | ((with_reducible refine at_dst 40 ?_); refine St.wl_load tyQ rfl rfl rfl R1.out (ae_len x) ?_; simp only [Act.put, List.setIfInBounds_toArray, List.set_cons_zero, List.set_cons_succ]) | ((with_reducible refine at_alloc 34 ?_); refine St.wl_alloc tyQ rfl rfl (by (try simp only [World.size_alloc]); rfl) ?_; simp only [Act.put, List.setIfInBounds_toArray, List.set_cons_zero, List.set_cons_succ]) | ((with_reducible refine at_store 34 ?_); refine St.wl_storeN (W := wr) tyQ rfl rfl rfl rfl rfl (by (try simp only [World.size_alloc])) (show _ = Value.agg (ae x).toArray from rfl) (by rw [List.size_toArray, ae_len]) rfl (encA.all x) ?_) | (go_at_call 9; refine (fround _ b b2 lv hv L H at_ S sf (HM.out.get 0 rfl) HB.out.ok (by have := HB.out.len; omega) (by have := HB.out.hl; omega) HB.out.sc HB.out.at_ x.ia x.iN x.ic x.il (HAt.out _ HM.out.keep) (by omega) x.now).mono ?_; rintro e w5 ⟨v5, lv1, hv1, rfl, m5⟩; rw [HR.out.1, HR.out.2] at m5; have HM : Hid (M (fun _ => False) w w5 [ftI b b2 lv1 hv1 r.left r.H a2 r.S sf, blk wr.heap.size (.cells (ae x).toArray 34), rF v5 r.asked]) := M.two HM.out 0 rfl m5; have HB : Hid (BInv r.left r.H r.S sf a2) := HBn.out; clear m5 d0 d1 d34 d35 HM2 R2))
          obtain ⟨D, hD⟩ : ∃ D, r.asked = D := ⟨_, rfl⟩
          rw [hD] at HM HAk
          obtain ⟨L1, hL1⟩ : ∃ D, r.left = D := ⟨_, rfl⟩
          obtain ⟨H1, hH1⟩ : ∃ D, r.H = D := ⟨_, rfl⟩
          obtain ⟨S1, hS1⟩ : ∃ D, r.S = D := ⟨_, rfl⟩
          rw [hL1, hH1, hS1] at HM HB
          clear hD hL1 hH1 hS1 HR HBn
          obtain ⟨va, vc, e5, _⟩ := (show OwnF _ v5 D from HM.out.get 2 rfl).any
          obtain ⟨nd, hnd⟩ : ∃ m, D.length = m := ⟨_, rfl⟩
          have Hnd : Hid (D.length = nd) := hnd
          rw [hnd] at e5
          subst e5
          clear hnd
          obtain ⟨xb, hxb⟩ : ∃ q, wr.heap.size = q := ⟨_, rfl⟩
          rw [hxb] at HM ⊢
          clear hxb
          go_loopw [10] (fun s10 wr => ∃ (k : Nat), k ≤ nd ∧ s10 = .int .i64 k ∧ M (fun _ => False) w wr [ftI b b2 lv1 hv1 L1 H1 a2 S1 sf, blk xb (.cells (ae x).toArray 34), rF (.slice va nd vc) D]) (fun s10 _ => nd - (intOf s10).toNat)
          case atStart => exact ⟨0, Nat.zero_le _, by go_num, HM.out⟩
          case round =>
            clear HM
            obtain ⟨k, hk, rfl, hM⟩ := hrel
            have HM : Hid (M (fun _ => False) w wr [ftI b b2 lv1 hv1 L1 H1 a2 S1 sf, blk xb (.cells (ae x).toArray 34), rF (.slice va nd vc) D]) := hM
            clear hM
            by_cases hlt : k < nd
            · obtain ⟨y, hy⟩ : ∃ y, D[k]? = some y := ⟨_, List.getElem?_eq_getElem (by rw [Hnd.out]; exact hlt)⟩
              have hmx := (St.Own.slice (show OwnF wr (.slice va nd vc) D from HM.out.get 2 rfl)).2.most
              rw [Hnd.out] at hmx
              unfold maxLen at hmx
              obtain ⟨g1, o1, e1, _, hr1⟩ := (St.Own.slice (show OwnF wr (.slice va nd vc) D from HM.out.get 2 rfl)).2.lay.resolve_left (by have := Hnd.out; omega)
              subst e1
              have R3 : Hid (wr.rangeAt g1 (o1 + k * 37) (fe y)) := hr1 k y hy
              obtain ⟨hak, hmem⟩ := HAk.out y (List.mem_of_getElem? hy)
              have HYu : Hid (y.u.length = 32) := y.hu
              have HMem : Hid (y.u ∈ x.il) := hmem
              obtain ⟨hp0, hp6⟩ := isP_in hak.p
              obtain ⟨ht0, ht64⟩ := hak.t
              obtain ⟨p, hp⟩ : ∃ p : Nat, y.p = (p : Int) := ⟨y.p.toNat, (Int.toNat_of_nonneg hp0).symm⟩
              have hp6n : p < 6 := by omega
              obtain ⟨m, hm⟩ : ∃ p : Nat, y.t = (p : Int) := ⟨y.t.toNat, (Int.toNat_of_nonneg ht0).symm⟩
              have hm6n : m < 64 := by omega
              have HP : Hid (isP sf p = true) := by have := hak.p; rwa [hp] at this
              have hT := hak.no
              rw [hm, hp] at hT
              simp only [Int.toNat_natCast] at hT
              have C32 : ∀ w2, Keep (fun _ => False) wr w2 → w2.cell? ⟨g1, o1 + k * 37 + 32, none⟩ = some (.int .i64 p) := fun w2 k2 => kcell k2 (R3.out 32 _ (by have := fe_p y; rw [hp] at this; rwa [List.getElem?_toArray] at this))
              have C34 : ∀ w2, Keep (fun _ => False) wr w2 → w2.cell? ⟨g1, o1 + k * 37 + 34, none⟩ = some (.int .i64 m) := fun w2 k2 => kcell k2 (R3.out 34 _ (by have := fe_t y; rw [hm] at this; rwa [List.getElem?_toArray] at this))
              have CI : ∀ w2, Keep (fun _ => False) wr w2 → w2.cell? ⟨xb, 1, none⟩ = some (.slice x.ia x.iN x.ic) := fun w2 k2 => kcell k2 (HM.out.cell 1 rfl 1 rfl)
              have CU : ∀ w2, Keep (fun _ => False) wr w2 → w2.rangeAt g1 (o1 + k * 37) (y.u.map bv) := fun w2 k2 j v hj => kcell k2 (fe_rng R3.out j v hj)
              have cb : wr.drew.cell? ⟨b, 1, none⟩ = some (.pointer (some ⟨b2, 0, none⟩)) := (FAt.cells (HM.out.drew.get 0 rfl)).2.1
              have hsh := shr_B m hm6n p hp6n
              rw [hT, if_neg (by decide)] at hsh
              have HBd : Hid (wr.drew.heap[b2]? = some (bc S1 sf)) := FAt.bd (HM.out.drew.get 0 rfl)
              have HAd : Hid (Ids.At wr.drew x.ia x.iN x.il) := HAt.out _ HM.out.drew.keep
              clear hr1 hy hak hmem hp hm hT ht0 ht64 hp0 hp6 hm6n
              go_wp2
              refine Txt.wp_region_text (id := 14) (Keep (fun _ => False) wr) [0, 4, 0, 0, 0, 0, 2, 4, 0, 0, 0, 0, 0, 0, 1, 0, 0, 0, 0, 1, 0, 0, 0, 0, 0, 0, 0, 1, 0, 0, 0, 0, 1, 4, 0, 0] (by kernel_rfl) (by kernel_rfl) (Keep.refl _ _).drew ?_
              have HS : Hid (Keep (fun _ => False) wr wr.drew) := (Keep.refl _ _).drew
              (repeat (first | (refine Txt.tl_pure (v := ?_) (by rfl) ?_ ?_; rotate_left; (focus (intro _; go_simp; try with_reducible rfl)); simp only [Act.put, List.setIfInBounds_toArray, List.set_cons_zero, List.set_cons_succ]) | (refine Txt.tl_load (v := ?_) (by rfl) (by rfl) (by rfl) (by kernel_rfl) ?_ ?_; rotate_left; (focus (first | exact C32 _ HS.out | exact C34 _ HS.out | exact CI _ HS.out)); simp only [Act.put, List.setIfInBounds_toArray, List.set_cons_zero, List.set_cons_succ]) | (refine Txt.tl_loadS (v := ?_) (by rfl) (by rfl) (by rfl) (by kernel_rfl) ?_ ?_; rotate_left; (focus (first | exact C32 | exact C34 | exact CI)); simp only [Act.put, List.setIfInBounds_toArray, List.set_cons_zero, List.set_cons_succ]) | (refine Txt.tl_rowN (n := 32) (ty := 32) (by rfl) (by rfl) (by rfl) (CU _ HS.out) (by kernel_rfl) (by rw [List.length_map]; exact HYu.out) ?_; simp only [Act.put, List.setIfInBounds_toArray, List.set_cons_zero, List.set_cons_succ]) | (refine Txt.tl_rowSN (n := 32) (ty := 32) (by rfl) (by rfl) (by rfl) CU (by kernel_rfl) (by rw [List.length_map]; exact HYu.out) ?_; simp only [Act.put, List.setIfInBounds_toArray, List.set_cons_zero, List.set_cons_succ]) | (refine Txt.tl_skip (by rfl) HS.out ?_; simp only [Act.put, List.setIfInBounds_toArray, List.set_cons_zero, List.set_cons_succ])))
              refine Txt.tl_call Try.func7 (by kernel_rfl) (by kernel_rfl) (by rfl) (by rfl) (by rfl) (fboard _ b b2 cb) ?_
              rintro e w3 ⟨rfl, h3⟩
              replace h3 := h3.symm
              subst h3
              refine ⟨_, rfl, HS.out, ?_⟩
              simp only [Act.put, List.setIfInBounds_toArray, List.set_cons_zero, List.set_cons_succ]
              (repeat (first | (refine Txt.tl_pure (v := ?_) (by rfl) ?_ ?_; rotate_left; (focus (intro _; go_simp; try with_reducible rfl)); simp only [Act.put, List.setIfInBounds_toArray, List.set_cons_zero, List.set_cons_succ]) | (refine Txt.tl_load (v := ?_) (by rfl) (by rfl) (by rfl) (by kernel_rfl) ?_ ?_; rotate_left; (focus (first | exact C32 _ HS.out | exact C34 _ HS.out | exact CI _ HS.out)); simp only [Act.put, List.setIfInBounds_toArray, List.set_cons_zero, List.set_cons_succ]) | (refine Txt.tl_loadS (v := ?_) (by rfl) (by rfl) (by rfl) (by kernel_rfl) ?_ ?_; rotate_left; (focus (first | exact C32 | exact C34 | exact CI)); simp only [Act.put, List.setIfInBounds_toArray, List.set_cons_zero, List.set_cons_succ]) | (refine Txt.tl_rowN (n := 32) (ty := 32) (by rfl) (by rfl) (by rfl) (CU _ HS.out) (by kernel_rfl) (by rw [List.length_map]; exact HYu.out) ?_; simp only [Act.put, List.setIfInBounds_toArray, List.set_cons_zero, List.set_cons_succ]) | (refine Txt.tl_rowSN (n := 32) (ty := 32) (by rfl) (by rfl) (by rfl) CU (by kernel_rfl) (by rw [List.length_map]; exact HYu.out) ?_; simp only [Act.put, List.setIfInBounds_toArray, List.set_cons_zero, List.set_cons_succ]) | (refine Txt.tl_skip (by rfl) HS.out ?_; simp only [Act.put, List.setIfInBounds_toArray, List.set_cons_zero, List.set_cons_succ])))
              refine Txt.tl_call Try.func17 (by kernel_rfl) (by kernel_rfl) (by rfl) (by rfl) (by rfl) (bis _ b2 S1 sf HB.out.sc HBd.out p) ?_
              rintro e w4 ⟨rfl, h4⟩
              replace h4 := h4.symm
              subst h4
              rw [HP.out]
              refine ⟨_, rfl, HS.out, ?_⟩
              simp only [Act.put, List.setIfInBounds_toArray, List.set_cons_zero, List.set_cons_succ]
              (repeat (first | (refine Txt.tl_pure (v := ?_) (by rfl) ?_ ?_; rotate_left; (focus (intro _; go_simp; try with_reducible rfl)); simp only [Act.put, List.setIfInBounds_toArray, List.set_cons_zero, List.set_cons_succ]) | (refine Txt.tl_load (v := ?_) (by rfl) (by rfl) (by rfl) (by kernel_rfl) ?_ ?_; rotate_left; (focus (first | exact C32 _ HS.out | exact C34 _ HS.out | exact CI _ HS.out)); simp only [Act.put, List.setIfInBounds_toArray, List.set_cons_zero, List.set_cons_succ]) | (refine Txt.tl_loadS (v := ?_) (by rfl) (by rfl) (by rfl) (by kernel_rfl) ?_ ?_; rotate_left; (focus (first | exact C32 | exact C34 | exact CI)); simp only [Act.put, List.setIfInBounds_toArray, List.set_cons_zero, List.set_cons_succ]) | (refine Txt.tl_rowN (n := 32) (ty := 32) (by rfl) (by rfl) (by rfl) (CU _ HS.out) (by kernel_rfl) (by rw [List.length_map]; exact HYu.out) ?_; simp only [Act.put, List.setIfInBounds_toArray, List.set_cons_zero, List.set_cons_succ]) | (refine Txt.tl_rowSN (n := 32) (ty := 32) (by rfl) (by rfl) (by rfl) CU (by kernel_rfl) (by rw [List.length_map]; exact HYu.out) ?_; simp only [Act.put, List.setIfInBounds_toArray, List.set_cons_zero, List.set_cons_succ]) | (refine Txt.tl_skip (by rfl) HS.out ?_; simp only [Act.put, List.setIfInBounds_toArray, List.set_cons_zero, List.set_cons_succ])))
              refine Txt.tl_call Try.func18 (by kernel_rfl) (by kernel_rfl) (by rfl) (by rfl) (by rfl) (xhas_any _ x.ia x.iN x.ic x.il HAd.out (by omega) y.u HYu.out) ?_
              rintro e w5 ⟨rfl, k5⟩
              have HM : Hid _ := HM.out.drew.calm k5
              have HS : Hid (Keep (fun _ => False) wr w5) := HS.out.trans k5
              clear k5
              rw [decide_eq_true HMem.out]
              refine ⟨_, rfl, HS.out, ?_⟩
              simp only [Act.put, List.setIfInBounds_toArray, List.set_cons_zero, List.set_cons_succ]
              (repeat (first | (refine Txt.tl_pure (v := ?_) (by rfl) ?_ ?_; rotate_left; (focus (intro _; go_simp; try with_reducible rfl)); simp only [Act.put, List.setIfInBounds_toArray, List.set_cons_zero, List.set_cons_succ]) | (refine Txt.tl_load (v := ?_) (by rfl) (by rfl) (by rfl) (by kernel_rfl) ?_ ?_; rotate_left; (focus (first | exact C32 _ HS.out | exact C34 _ HS.out | exact CI _ HS.out)); simp only [Act.put, List.setIfInBounds_toArray, List.set_cons_zero, List.set_cons_succ]) | (refine Txt.tl_loadS (v := ?_) (by rfl) (by rfl) (by rfl) (by kernel_rfl) ?_ ?_; rotate_left; (focus (first | exact C32 | exact C34 | exact CI)); simp only [Act.put, List.setIfInBounds_toArray, List.set_cons_zero, List.set_cons_succ]) | (refine Txt.tl_rowN (n := 32) (ty := 32) (by rfl) (by rfl) (by rfl) (CU _ HS.out) (by kernel_rfl) (by rw [List.length_map]; exact HYu.out) ?_; simp only [Act.put, List.setIfInBounds_toArray, List.set_cons_zero, List.set_cons_succ]) | (refine Txt.tl_rowSN (n := 32) (ty := 32) (by rfl) (by rfl) (by rfl) CU (by kernel_rfl) (by rw [List.length_map]; exact HYu.out) ?_; simp only [Act.put, List.setIfInBounds_toArray, List.set_cons_zero, List.set_cons_succ]) | (refine Txt.tl_skip (by rfl) HS.out ?_; simp only [Act.put, List.setIfInBounds_toArray, List.set_cons_zero, List.set_cons_succ])))
              refine Txt.tl_nil ?_
              go_wp2
              go_roundw
              case rel => exact ⟨k + 1, by omega, by go_num, HM.out⟩
              case measure => simp [intOf]; omega
            · obtain rfl : k = nd := by omega
              have HM : Hid (M (fun _ => False) w wr [ftI b b2 lv1 hv1 L1 H1 a2 S1 sf, blk xb (.cells (ae x).toArray 34)]) := HM.out.take 2
              go_wp2_with (first | (go_at_call 19; refine (fall _ b b2 lv1 hv1 L1 H1 a2 S1 sf (HM.out.get 0 rfl) (by have := HB.out.len; omega) (by have := HB.out.hl; omega)).mono ?_; rintro e w7 ⟨v7, rfl, m7⟩; have HM : Hid (M (fun _ => False) w w7 [ftI b b2 lv1 hv1 L1 H1 a2 S1 sf, blk xb (.cells (ae x).toArray 34), rF v7 ((L1).map (toldX H1))]) := HM.out.add (x := rF v7 ((L1).map (toldX H1))) m7.keep (m7.get 0 rfl) (fun k hk => ⟨(m7.rng 0 _ rfl k hk).1.resolve_right (fun h => h), (m7.rng 0 _ rfl k hk).2⟩); clear m7))
              obtain ⟨D, hD⟩ : ∃ D, (L1).map (toldX H1) = D := ⟨_, rfl⟩
              have HDl : Hid (D.length ≤ 8) := by show _ ≤ _; rw [← hD, List.length_map]; exact HB.out.len
              have HDn : Hid ((D.map (·.u)).Nodup) := by show List.Nodup _; rw [← hD, List.map_map]; exact HB.out.nd
              rw [hD] at HM
              clear hD
              obtain ⟨va, vc, e7, _⟩ := (show OwnF _ v7 D from HM.out.get 2 rfl).any
              obtain ⟨nd, hnd⟩ : ∃ m, D.length = m := ⟨_, rfl⟩
              have Hnd : Hid (D.length = nd) := hnd
              rw [hnd] at e7
              subst e7
              have hnd8 : nd ≤ 8 := by rw [← hnd]; exact HDl.out
              clear hnd
              have HM : Hid (M (fun _ => False) w w7 [ftI b b2 lv1 hv1 L1 H1 a2 S1 sf, rF (.slice va nd vc) D, ids (.slice none 0 0) []]) := (HM.out.sub [ftI b b2 lv1 hv1 L1 H1 a2 S1 sf, rF (.slice va nd vc) D] [0, 2] (by decide) rfl).nilI
              go_loopw [12, 13] (fun s12 s13 wr => ∃ (k : Nat) (v : Value), k ≤ nd ∧ s12 = v ∧ s13 = .int .i64 k ∧ M (fun _ => False) w wr [ftI b b2 lv1 hv1 L1 H1 a2 S1 sf, rF (.slice va nd vc) D, ids v ((D.take k).map (·.u))]) (fun _ s13 _ => nd - (intOf s13).toNat)
              case atStart => exact ⟨0, _, Nat.zero_le _, rfl, by go_num, HM.out⟩
              case round =>
                clear HM
                obtain ⟨k, v, hk, e12, rfl, hM⟩ := hrel
                replace e12 := e12.symm
                subst e12
                have HM : Hid (M (fun _ => False) w wr [ftI b b2 lv1 hv1 L1 H1 a2 S1 sf, rF (.slice va nd vc) D, ids v ((D.take k).map (·.u))]) := hM
                clear hM
                by_cases hlt : k < nd
                · obtain ⟨y, hy⟩ : ∃ y, D[k]? = some y := ⟨_, List.getElem?_eq_getElem (by rw [Hnd.out]; exact hlt)⟩
                  obtain ⟨g1, o1, e1, _, hr1⟩ := (St.Own.slice (show OwnF wr (.slice va nd vc) D from HM.out.get 1 rfl)).2.lay.resolve_left (by have := Hnd.out; omega)
                  subst e1
                  have R3 : Hid (wr.rangeAt g1 (o1 + k * 37) (y.u.map bv)) := fe_rng (hr1 k y hy)
                  have HYu : Hid (y.u.length = 32) := y.hu
                  have HSt : Hid ((D.take (k + 1)).map (·.u) = (D.take k).map (·.u) ++ [y.u]) := by show _ = _; rw [List.take_add_one, hy, List.map_append]; rfl
                  have HLl : Hid (((D.take k).map (·.u)).length ≤ 100) := by show _ ≤ _; rw [List.length_map, List.length_take]; omega
                  clear hr1 hy
                  go_wp2_with (first | ((with_reducible refine at_load 32 ?_); refine Ids.wl_load rfl rfl rfl HYu.out R3.out ?_; simp only [Act.put, List.setIfInBounds_toArray, List.set_cons_zero, List.set_cons_succ]) | (refine Ids.wl_build rfl rfl HYu.out rfl ?_; have HM : Hid _ := HM.out.alloc (.cells (y.u.map bv).toArray 32) (by first | rfl | simp only [World.size_alloc]); simp only [Act.put, List.setIfInBounds_toArray, List.set_cons_zero, List.set_cons_succ]) | (refine Ids.wl_app1 rfl rfl rfl (HM.out.get 2 rfl) rfl HYu.out (HM.out.get 3 rfl) (by have := HLl.out; omega) ?_; intro v4 w4 h4 k4 g4; have HM : Hid _ := HM.out.appI 2 rfl h4 k4 g4; clear h4 k4 g4; simp only [Act.put, List.setIfInBounds_toArray, List.set_cons_zero, List.set_cons_succ]))
                  go_roundw
                  case rel => exact ⟨k + 1, _, by omega, rfl, by go_num, by rw [HSt.out]; exact HM.out.take 3⟩
                  case measure => simp [intOf]; omega
                · obtain rfl : k = nd := by omega
                  have eT : (D.take k).map (·.u) = D.map (·.u) := by rw [List.take_of_length_le (by rw [Hnd.out]; exact Nat.le_refl _)]
                  rw [eT] at HM
                  clear eT
                  obtain ⟨E, hE⟩ : ∃ E, D.map (·.u) = E := ⟨_, rfl⟩
                  have HEl : Hid (E.length = k) := by show _ = _; rw [← hE, List.length_map]; exact Hnd.out
                  have HEs : Hid ((IdL.setL E).length = k) := by show _ = _; rw [setL_len_of (by rw [← hE]; exact HDn.out)]; exact HEl.out
                  rw [hE] at HM
                  obtain ⟨ea, ec, e8, _⟩ := (show Ids.Own _ v E from HM.out.get 2 rfl).at
                  rw [HEl.out] at e8
                  subst e8
                  clear hE
                  go_wp2_with (first | (go_at_call 20; refine (xset_any _ ea k ec E (own_idat (HM.out.get 2 rfl)) (by omega)).mono ?_; rintro e w8 ⟨v8, rfl, n8⟩; obtain ⟨a8, c8, e8, _, _⟩ := n8.1.at; rw [HEs.out] at e8; subst e8; have HM : Hid _ := HM.out.calm n8.2.1; clear n8))
                  go_roundw
                  case rel => exact ⟨i + 1, _, _, _, _, _, _, by omega, by omega, by go_num, HB.out, HM.out.take 1⟩
                  case measure => simp [intOf]; omega
    · have hgo' : n ≤ i ∨ (i < n ∧ 60 ≤ i) := by omega
      clear hgo
      rcases hgo' with h | ⟨h, h'⟩
      all_goals
        go_wp2_with (first | (go_at_call 12; refine (awakeF _).mono ?_; rintro e w9 ⟨rfl, k1⟩; have HM : Hid _ := HM.out.calm k1; clear k1))
        go_ret
        exact ⟨rfl, Keep.below HM.out.keep (Nat.le_refl _) (fun _ h => h.elim)⟩
set_option maxRecDepth 100000 in
theorem own : ownKnob Try.prog.godebug = none := by kernel_rfl
set_option maxRecDepth 100000 in
theorem laidOut : laidOutB Try.prog = true := by kernel_rfl
set_option maxRecDepth 100000 in
theorem contract (H : Type) (enc : TypeId × Value → H) (W : World) (base : Nat) (args : Array Value) (ds gs : List (DataW H)) (before : List MemPlace)
    (hval : ∀ (j : Nat) t v, Try.f4.params[j]? = some t → args[j]? = some v → Value.okWide Try.prog W .any base t v)
    (hW : DataW.Whole enc Try.prog Try.f4.params.toList Rows.fetchBoundSpec.vars false W args.toList ds gs before) :
    Calls Try.prog 4 args W fun e W' => ∃ v, e = .returned v ∧ Rows.fetchBoundSpec.post enc Try.prog Try.f4 false true false false W args v W' := by
  have hW' := hW
  obtain ⟨p, q, hA0, hV, rfl, hfz, hnd⟩ := hW
  have hA : DataW.TrodAll enc Try.prog W 0 (fun _ => true) true Try.f4.params.toList args.toList ds p := hA0
  rw [Try.params4] at hA hval
  obtain ⟨rfl, rfl⟩ := trodVars_none hV
  obtain ⟨v0, vs0, d0, ds0, p0, q0, hargs, rfl, rfl, h0, r0⟩ := trodAll_cons hA
  obtain ⟨v1, vs1, d1, ds1, p1, q1, rfl, rfl, rfl, h1, r1⟩ := trodAll_cons r0
  obtain ⟨rfl, rfl, rfl⟩ := trodAll_nil r1
  obtain rfl : args = #[v0, v1] := by cases args; simp_all
  obtain ⟨q, rfl, rfl, rfl, hq⟩ := open_int Try.underlying5 (hval 0 _ v0 rfl rfl) h0
  obtain ⟨s, rfl, hs, _⟩ := Opn.open_sl Try.underlying22 rdQl (hval 1 _ v1 rfl rfl) h1
  have hw : 0 ≤ q ∧ q < 256 := by
    simp [Lit.wf, IntKind.min, IntKind.max, IntKind.signed, IntKind.bits] at hq
    omega
  refine (walk q s W hw.1 hw.2 hs).mono fun e W' ⟨he, bel⟩ => ?_
  subst he
  exact ⟨_, rfl, Opn.law_post laidOut (by kernel_rfl) rfl Try.underlying4 rfl rfl hW' bel⟩
set_option maxRecDepth 100000 in
theorem lifted (os : Os) (started : os.Started) (H : Type) (enc : TypeId × Value → H) :
    ReturnsInHanded {} Try.checked os 4 .any (Rows.fetchBoundSpec.pre6 enc Try.prog Try.f4 Rows.fetchBoundRow.domain false) (Rows.fetchBoundSpec.post enc Try.prog Try.f4 false true false false) := by
  refine returnsInHanded_of_change (C := Try.checked) own started (by kernel_rfl) Try.func4
    (ChangeSpec.witness6 (enc := enc) (C := Try.checked) false ⟨#[], #[.int .u8 0, .slice none 0 0], []⟩ 8 (by kernel_rfl) (by kernel_rfl) (by kernel_rfl) (by kernel_rfl)) ?_
  intro W base args ds gs before hval0 hW hcnd _
  exact contract H enc W base args ds gs before hval0 hW
theorem over : Rows.fetchBoundRow.holds Try.pinned (OpenSpec.ofChange Rows.fetchBoundSpec) :=
  OpenClaim.holds_of_wide 4 Try.f4 rfl rfl rfl rfl rfl rfl rfl ⟨rfl, rfl, rfl, rfl, rfl⟩ rfl rfl rfl rfl rfl (by kernel_rfl) Try.func4 (by kernel_rfl)
    (of_decide_eq_true (by kernel_rfl)) (by unfold Func.isWrapper; first | (rw [if_pos (by decide +kernel)]; kernel_rfl) | (rw [if_neg (by decide +kernel)]; exact ⟨rfl, rfl⟩))
    (fun os started H enc _ => lifted os started H enc)
theorem proved : Rows.FetchBoundSaid := over
end FetchBound
end Go.Proofs.Ytgllkfolckbdhaa
