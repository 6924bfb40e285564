/-
  'petrellaw33.FetchRound': within so many rounds each id is asked for of each peer, and withheld. For every input.
-/
import Derived.Test.YtgllkfolckbdhaaFeW
import Derived.Test.YtgllkfolckbdhaaGRf
set_option linter.unusedVariables false
set_option linter.unusedSimpArgs false
namespace Go.Proofs.Ytgllkfolckbdhaa
open Go.RowKit Go.ChangeShapes Go.WideShapes Go.ChangeAt
open Go.ChangeMaps (open_string shut_string)
namespace FetchRound
open Oct Ids Fe
open Mem (M It blk ids rows)
set_option maxRecDepth 100000 in
set_option maxHeartbeats 16000000 in
theorem walk (q1 q2 : Int) (s : Opn.Sl AQ) (w : World) (hq0 : 0 ≤ q1) (hq1 : q1 < 256) (hq2 : 0 ≤ q2) (hq3 : q2 < 256) (hs : Opn.SlAt 36 layQ factQ w s) :
    Calls Try.prog 3 #[.int .u8 q1, .int .u8 q2, .slice s.a s.len s.cap] w fun e w' => e = .returned (.bool true) ∧ Below w.heap.size w w' := by
  obtain ⟨hA, hL, hlc, hcm⟩ := acs_of hs
  generalize s.els.map qk = A at hA hL
  generalize s.a = a at hA ⊢
  generalize s.len = n at hA hlc ⊢
  generalize s.cap = c at hlc hcm ⊢
  have HA : Hid (St.At 36 ae w a n A) := hA
  have HL : Hid (∀ x ∈ A, AcAt w x) := hL
  have HLn : Hid (A.length = n) := hA.len
  unfold maxLen at hcm
  obtain ⟨sf, hsf⟩ : ∃ m : Nat, q1 % 6 = (m : Int) := ⟨(q1 % 6).toNat, by omega⟩
  obtain ⟨m0, hm0⟩ : ∃ m : Nat, q2 % 12 = (m : Int) := ⟨(q2 % 12).toNat, by omega⟩
  have hsf6 : sf < 6 := by omega
  have hm12 : m0 < 12 := by omega
  have hcv : IntKind.i64.wrap q1 = q1 := IntWalk.i64_in _ (by omega)
  have hcv2 : IntKind.i64.wrap q2 = q2 := IntWalk.i64_in _ (by omega)
  have HN : Hid (Calls Try.prog 6 #[.int .i64 (sf : Int)] w fun e w' => ∃ b b2, e = .returned (.tuple #[.pointer (some ⟨b, 0, none⟩), .int .i64 0]) ∧ M (fun _ => False) w w' [ftI b b2 (.slice none 0 0) (.slice none 0 0) [] [] 0 zeros6 sf]) := fnew w sf (by omega)
  have HZ : Hid (SOk zeros6 sf) := zeros_ok (by omega)
  clear hA hL hs
  go_enter Try.func3, Try.ntmps3
  go_wp2_with (first | (go_at_call 6; refine HN.out.mono ?_; rintro e w1 ⟨b, b2, rfl, m1⟩; have HM : Hid (M (fun _ => False) w w1 [ftI b b2 (.slice none 0 0) (.slice none 0 0) [] [] 0 zeros6 sf]) := m1; clear m1))
  go_loopw [10] (fun s10 wr => ∃ (i : Nat) (S : List Int), i ≤ n ∧ i ≤ 20 ∧ s10 = .int .i64 i ∧ SOk S sf ∧ M (fun _ => False) w wr [ftI b b2 (.slice none 0 0) (.slice none 0 0) [] [] 0 S sf]) (fun s10 _ => 20 - (intOf s10).toNat)
  case atStart => exact ⟨0, _, Nat.zero_le _, Nat.zero_le _, by go_num, HZ.out, HM.out⟩
  case round =>
    clear HM HN HZ
    obtain ⟨i, S, hi, hi20, rfl, hS, hM⟩ := hrel
    have HM : Hid (M (fun _ => False) w wr [ftI b b2 (.slice none 0 0) (.slice none 0 0) [] [] 0 S sf]) := hM
    have HS : Hid (SOk S sf) := hS
    clear hM hS
    by_cases hgo : i < n ∧ i < 20
    · obtain ⟨hin', hi6⟩ := hgo
      obtain ⟨x, hx⟩ : ∃ x, A[i]? = some x := ⟨_, List.getElem?_eq_getElem (by rw [HLn.out]; exact hin')⟩
      obtain ⟨g0, o0, e0, hg0, hr0⟩ := HA.out.lay.resolve_left (by omega)
      subst e0
      have R1 : Hid (wr.rangeAt g0 (o0 + i * 36) (ae x)) := HM.out.keep.range hg0 (fun h => h) (hr0 i x hx)
      have HX : Hid (I64 x.now) := (HL.out x (List.mem_of_getElem? hx)).2
      have hb2 : w.heap.size ≤ b2 := (HM.out.rng 0 _ rfl b2 (.inr (.inr (.inr rfl)))).1.resolve_right (fun h => h)
      have hgw : g0 < wr.heap.size := Nat.lt_of_lt_of_le hg0 HM.out.keep.size
      have C34 : ∀ w2, Keep (fun k => k = b2) wr w2 → w2.cell? ⟨g0, o0 + i * 36 + 34, none⟩ = some (.int .i64 x.f) := fun w2 k2 => (k2.cell (p := ⟨g0, o0 + i * 36 + 34, none⟩) hgw (fun e => by simp only at e; omega)).trans (rng_q R1.out ae_f)
      have C35 : ∀ w2, Keep (fun k => k = b2) wr w2 → w2.cell? ⟨g0, o0 + i * 36 + 35, none⟩ = some (.int .i64 x.now) := fun w2 k2 => (k2.cell (p := ⟨g0, o0 + i * 36 + 35, none⟩) hgw (fun e => by simp only at e; omega)).trans (rng_q R1.out ae_n)
      have cb : wr.drew.cell? ⟨b, 1, none⟩ = some (.pointer (some ⟨b2, 0, none⟩)) := (FAt.cells (HM.out.drew.get 0 rfl)).2.1
      have HBd : Hid (wr.drew.heap[b2]? = some (bc S sf)) := FAt.bd (HM.out.drew.get 0 rfl)
      clear hr0 hx hg0 hb2 hgw
      go_wp2
      refine Txt.wp_region_text (id := 8) (Keep (fun k => k = b2) wr) [0, 4, 0, 0, 0, 0, 2, 0, 0, 0, 0, 2, 4] (by kernel_rfl) (by kernel_rfl) (Keep.refl _ _).drew ?_
      have HS2 : Hid (Keep (fun k => k = b2) wr wr.drew) := (Keep.refl _ _).drew
      (repeat (first | (refine Txt.tl_pure (v := ?_) (by rfl) ?_ ?_; rotate_left; (focus (intro _; go_simp; try with_reducible rfl)); simp only [Act.put, List.setIfInBounds_toArray, List.set_cons_zero, List.set_cons_succ]) | (refine Txt.tl_load (v := ?_) (by rfl) (by rfl) (by rfl) (by kernel_rfl) ?_ ?_; rotate_left; (focus (first | exact C34 _ HS2.out | exact C35 _ HS2.out)); simp only [Act.put, List.setIfInBounds_toArray, List.set_cons_zero, List.set_cons_succ]) | (refine Txt.tl_loadS (v := ?_) (by rfl) (by rfl) (by rfl) (by kernel_rfl) ?_ ?_; rotate_left; (focus (first | exact C34 | exact C35)); simp only [Act.put, List.setIfInBounds_toArray, List.set_cons_zero, List.set_cons_succ])))
      refine Txt.tl_call Try.func7 (by kernel_rfl) (by kernel_rfl) (by rfl) (by rfl) (by rfl) (fboard _ b b2 cb) ?_
      rintro e w3 ⟨rfl, h3⟩
      replace h3 := h3.symm
      subst h3
      refine ⟨_, rfl, HS2.out, ?_⟩
      simp only [Act.put, List.setIfInBounds_toArray, List.set_cons_zero, List.set_cons_succ]
      (repeat (first | (refine Txt.tl_pure (v := ?_) (by rfl) ?_ ?_; rotate_left; (focus (intro _; go_simp; try with_reducible rfl)); simp only [Act.put, List.setIfInBounds_toArray, List.set_cons_zero, List.set_cons_succ]) | (refine Txt.tl_load (v := ?_) (by rfl) (by rfl) (by rfl) (by kernel_rfl) ?_ ?_; rotate_left; (focus (first | exact C34 _ HS2.out | exact C35 _ HS2.out)); simp only [Act.put, List.setIfInBounds_toArray, List.set_cons_zero, List.set_cons_succ]) | (refine Txt.tl_loadS (v := ?_) (by rfl) (by rfl) (by rfl) (by kernel_rfl) ?_ ?_; rotate_left; (focus (first | exact C34 | exact C35)); simp only [Act.put, List.setIfInBounds_toArray, List.set_cons_zero, List.set_cons_succ])))
      refine Txt.tl_call Try.func8 (by kernel_rfl) (by kernel_rfl) (by rfl) (by rfl) (by rfl) (bturn _ b2 S sf HS.out HBd.out x.f x.now HX.out) ?_
      rintro e w5 ⟨⟨cc, rfl⟩, hb5, k5⟩
      have HM : Hid (M (fun _ => False) w w5 [ftI b b2 (.slice none 0 0) (.slice none 0 0) [] [] 0 (turnS S sf x.f x.now) sf]) := M.fto HM.out.drew 0 rfl (FTo.turn (HM.out.drew.get 0 rfl) hb5 k5)
      refine ⟨_, rfl, HS2.out.trans k5, ?_⟩
      simp only [Act.put, List.setIfInBounds_toArray, List.set_cons_zero, List.set_cons_succ]
      refine Txt.tl_nil ?_
      go_wp2
      go_roundw
      case rel => exact ⟨i + 1, _, by omega, by omega, by go_num, HS.out.turn x.f x.now, HM.out⟩
      case measure => simp [intOf]; omega
    · have hgo' : n ≤ i ∨ (i < n ∧ 20 ≤ i) := by omega
      clear hgo
      clear HA HL HLn
      rcases hgo' with h | ⟨h, h'⟩
      · go_wp2
        obtain ⟨m, hm⟩ : ∃ m, m0 + 1 = m := ⟨_, rfl⟩
        have hm1 : 0 < m := by omega
        have hm13 : m < 13 := by omega
        rw [show 1 + (m0 : Int) = (m : Int) from by omega]
        clear hm hm12 hm0
        have HM : Hid (M (fun _ => False) w wr [ftI b b2 (.slice none 0 0) (.slice none 0 0) [] [] 0 S sf, ids (.slice none 0 0) []]) := HM.out.nilI
        go_loopw [12, 13] (fun s12 s13 wr => ∃ (k : Nat) (v : Value), k ≤ m ∧ s12 = v ∧ s13 = .int .i64 k ∧ M (fun _ => False) w wr [ftI b b2 (.slice none 0 0) (.slice none 0 0) [] [] 0 S sf, ids v (idsN k)]) (fun _ s13 _ => m - (intOf s13).toNat)
        case atStart => exact ⟨0, _, Nat.zero_le _, rfl, by go_num, HM.out⟩
        case round =>
          clear HM
          obtain ⟨k, v, hk, e12, rfl, hM⟩ := hrel
          replace e12 := e12.symm
          subst e12
          have HM : Hid (M (fun _ => False) w wr [ftI b b2 (.slice none 0 0) (.slice none 0 0) [] [] 0 S sf, ids v (idsN k)]) := hM
          clear hM
          by_cases hlt : k < m
          · have hb8 := byte_N k (by omega)
            have HIl : Hid (List.length (idN k) = 32) := idN_len k
            have HSt : Hid (idsN (k + 1) = idsN k ++ [idN k]) := by show _ = _; unfold idsN; rw [List.range_succ, List.map_append]; rfl
            have HLl : Hid ((idsN k).length ≤ 100) := by show _ ≤ _; rw [ids_len]; omega
            go_wp2_with (first | (refine wl_buildL rfl rfl [(0, .int .u8 ((UInt8.ofNat (k + 1)).toNat : Int))] rfl (cs := ((idN k).map bv).toArray) (built_id (UInt8.ofNat (k + 1))) ?_; simp only [Act.put, List.setIfInBounds_toArray, List.set_cons_zero, List.set_cons_succ]) | (refine Ids.wl_build (l := idN k) rfl rfl HIl.out rfl ?_; have HM : Hid _ := HM.out.alloc (.cells ((idN k).map bv).toArray 32) (by first | rfl | simp only [World.size_alloc]); simp only [Act.put, List.setIfInBounds_toArray, List.set_cons_zero, List.set_cons_succ]) | (refine Ids.wl_app1 rfl rfl rfl (HM.out.get 1 rfl) rfl HIl.out (HM.out.get 2 rfl) (by have := HLl.out; omega) ?_; intro v4 w4 h4 k4 g4; have HM : Hid _ := HM.out.appI 1 rfl h4 k4 g4; clear h4 k4 g4; simp only [Act.put, List.setIfInBounds_toArray, List.set_cons_zero, List.set_cons_succ]))
            go_roundw
            case rel => exact ⟨k + 1, _, by omega, rfl, by go_num, by rw [HSt.out]; exact HM.out.take 2⟩
            case measure => simp [intOf]; omega
          · obtain rfl : m = k := by omega
            have hHil : (idsN m).length = m := ids_len m
            obtain ⟨va, vc, e8, _⟩ := (show Ids.Own _ v (idsN m) from HM.out.get 1 rfl).at
            rw [hHil] at e8
            subst e8
            clear hHil hk hlt
            have HG0 : Hid (Gl sf m ⟨S, [], [], 0, List.replicate m 0⟩) := Gl.start HS.out
            go_wp2_with (first | (refine wl_mkInt (n := m) rfl rfl rfl rfl (by omega) rfl ?_; intro w9 h9 k9; have HM : Hid (M (fun _ => False) w w9 [ftI b b2 (.slice none 0 0) (.slice none 0 0) [] [] 0 S sf, ids (.slice va m vc) (idsN m), blk wr.heap.size (trO (List.replicate m 0))]) := HM.out.add (x := blk wr.heap.size (trO (List.replicate m 0))) k9 h9 (fun k hk => by cases hk; exact ⟨Nat.le_refl _, lt_of_block h9⟩); clear h9 k9; simp only [Act.put, List.setIfInBounds_toArray, List.set_cons_zero, List.set_cons_succ]))
            obtain ⟨bt, hbt⟩ : ∃ q, wr.heap.size = q := ⟨_, rfl⟩
            rw [hbt] at HM ⊢
            clear hbt
            obtain ⟨q0, hq0⟩ : ∃ q : Q, (⟨S, [], [], 0, List.replicate m 0⟩ : Q) = q := ⟨_, rfl⟩
            have Hq : Hid (q0.L = [] ∧ q0.a = 0) := by rw [← hq0]; exact ⟨rfl, rfl⟩
            have HMq : Hid (∃ lv hv, M (fun _ => False) w w9 [ftI b b2 lv hv q0.L q0.H q0.a q0.S sf, ids (.slice va m vc) (idsN m), blk bt (trO q0.tr)]) := by rw [← hq0]; exact ⟨_, _, HM.out⟩
            rw [hq0] at HG0
            obtain ⟨N, hN⟩ : ∃ N : Nat, 28 * (m / 8 + 2) = N := ⟨_, rfl⟩
            have hN1 : 42 ≤ N := by omega
            have hN2 : N ≤ 100 := by omega
            have hNi : (28 : Int) * ((m : Int) / 8 + 2) = (N : Int) := by omega
            clear hq0 HM HS hN
            go_loopw [15] (fun s15 wr => ∃ (r : Nat) (lv hv : Value), r ≤ N ∧ s15 = .int .i64 r ∧ M (fun _ => False) w wr [ftI b b2 lv hv (stQ sf m q0 r).L (stQ sf m q0 r).H (stQ sf m q0 r).a (stQ sf m q0 r).S sf, ids (.slice va m vc) (idsN m), blk bt (trO (stQ sf m q0 r).tr)]) (fun s15 _ => N - (intOf s15).toNat)
            case atStart =>
              obtain ⟨lv, hv, h⟩ := HMq.out
              exact ⟨0, lv, hv, Nat.zero_le _, by go_num, h⟩
            case round =>
              clear HMq
              obtain ⟨r, lv, hv, hr, rfl, hM⟩ := hrel
              obtain ⟨q, hq⟩ : ∃ q, stQ sf m q0 r = q := ⟨_, rfl⟩
              have HQ : Hid (stQ sf m q0 r = q) := hq
              rw [hq] at hM
              have HM : Hid (M (fun _ => False) w wr [ftI b b2 lv hv q.L q.H q.a q.S sf, ids (.slice va m vc) (idsN m), blk bt (trO q.tr)]) := hM
              have HG : Hid (Gl sf m q) := by show Gl _ _ _; rw [← hq]; exact HG0.out.st hsf6 hm13 r (by omega)
              clear hM hq
              by_cases hlt : r < N
              · obtain ⟨q', hq'⟩ : ∃ q', stepQ sf m r q = q' := ⟨_, rfl⟩
                obtain ⟨D, hD⟩ : ∃ D, (roundR sf r (idsN m) q.S q.H q.L q.a).asked = D := ⟨_, rfl⟩
                have HQn : Hid (stQ sf m q0 (r + 1) = q') := by show stepQ sf m r (stQ sf m q0 r) = q'; rw [HQ.out]; exact hq'
                have HQ' : Hid (stepQ sf m r q = q') := hq'
                have HD : Hid ((roundR sf r (idsN m) q.S q.H q.L q.a).asked = D) := hD
                have HAk : Hid (∀ y ∈ D, AskOk sf y ∧ y.u ∈ idsN m) := by show ∀ y ∈ D, _; rw [← hD]; exact (askd hm13 (by omega) HG.out).2
                have HTr : Hid (D.foldl tick q.tr = q'.tr) := by show _ = _; rw [← hD, ← hq']; rfl
                have HTl : Hid (q.tr.length = m) := HG.out.l
                have HTf : Hid (∀ k i, Sb (((D.take k).foldl tick q.tr).getD i 0) (full sf)) := fun k i => ticks_sub hsf6 i _ _ (fun y hy => (HAk.out y (List.mem_of_mem_take hy)).1) (HG.out.f i)
                clear hq' hD
                go_wp2_with (first | (go_at_call 9; refine (fround _ b b2 lv hv q.L q.H q.a q.S sf (HM.out.get 0 rfl) HG.out.b.ok (by have := HG.out.b.len; omega) (by have := HG.out.b.hl; omega) HG.out.b.sc HG.out.b.at_ va m vc (idsN m) (own_idat (HM.out.get 1 rfl)) (by omega) r).mono ?_; rintro e w5 ⟨v5, lv1, hv1, rfl, m5⟩; rw [once_ids m hm13, clk_nat (by omega)] at m5; have HM : Hid (M (fun _ => False) w w5 [ftI b b2 lv1 hv1 q'.L q'.H q'.a q'.S sf, ids (.slice va m vc) (idsN m), blk bt (trO q.tr), rF v5 D]) := (by rw [← HQ'.out, ← HD.out]; exact M.two HM.out 0 rfl m5); clear m5))
                obtain ⟨xa, xc, e5, _⟩ := (show OwnF _ v5 D from HM.out.get 3 rfl).any
                obtain ⟨nd, hnd⟩ : ∃ m, D.length = m := ⟨_, rfl⟩
                have Hnd : Hid (D.length = nd) := hnd
                rw [hnd] at e5
                subst e5
                clear hnd
                go_loopw [17] (fun s17 wr => ∃ (k : Nat), k ≤ nd ∧ s17 = .int .i64 k ∧ M (fun _ => False) w wr [ftI b b2 lv1 hv1 q'.L q'.H q'.a q'.S sf, ids (.slice va m vc) (idsN m), blk bt (trO ((D.take k).foldl tick q.tr)), rF (.slice xa nd xc) D]) (fun s17 _ => nd - (intOf s17).toNat)
                case atStart => exact ⟨0, Nat.zero_le _, by go_num, HM.out⟩
                case round =>
                  clear HM
                  obtain ⟨k, hk, rfl, hM⟩ := hrel
                  obtain ⟨tr, htr⟩ : ∃ tr, (D.take k).foldl tick q.tr = tr := ⟨_, rfl⟩
                  have HTk : Hid ((D.take k).foldl tick q.tr = tr) := htr
                  rw [htr] at hM
                  have HM : Hid (M (fun _ => False) w wr [ftI b b2 lv1 hv1 q'.L q'.H q'.a q'.S sf, ids (.slice va m vc) (idsN m), blk bt (trO tr), rF (.slice xa nd xc) D]) := hM
                  have HTkl : Hid (tr.length = m) := by show _ = _; rw [← htr, ticks_len]; exact HTl.out
                  have HTkf : Hid (∀ i, Sb (tr.getD i 0) (full sf)) := by show ∀ i, _; rw [← htr]; exact HTf.out k
                  clear hM htr
                  by_cases hlt2 : k < nd
                  · obtain ⟨y, hy⟩ : ∃ y, D[k]? = some y := ⟨_, List.getElem?_eq_getElem (by rw [Hnd.out]; exact hlt2)⟩
                    have hmx := (St.Own.slice (show OwnF wr (.slice xa nd xc) D from HM.out.get 3 rfl)).2.most
                    rw [Hnd.out] at hmx
                    unfold maxLen at hmx
                    obtain ⟨g1, o1, e1, _, hr1⟩ := (St.Own.slice (show OwnF wr (.slice xa nd xc) D from HM.out.get 3 rfl)).2.lay.resolve_left (by have := Hnd.out; omega)
                    subst e1
                    have R3 : Hid (wr.rangeAt g1 (o1 + k * 37) (fe y)) := hr1 k y hy
                    obtain ⟨hak, hmem⟩ := HAk.out y (List.mem_of_getElem? hy)
                    obtain ⟨i, him, hiu⟩ := mem_ids.1 hmem
                    obtain ⟨hp0, hp6⟩ := isP_in hak.p
                    obtain ⟨p, hp⟩ : ∃ p : Nat, y.p = (p : Int) := ⟨y.p.toNat, (Int.toNat_of_nonneg hp0).symm⟩
                    have hp6n : p < 6 := by omega
                    have HSt : Hid ((D.take (k + 1)).foldl tick q.tr = tr.set i (tr.getD i 0 ||| 2 ^ p)) := by
                      show _ = _
                      rw [List.take_add_one, hy, List.foldl_append, HTk.out]
                      show tick tr y = _
                      unfold tick
                      rw [← hiu, ix_id i (by omega), hp, Int.toNat_natCast]
                    have cu : wr.cell? ⟨g1, o1 + k * 37, none⟩ = some (.int .u8 ((i : Int) + 1)) := by
                      have := R3.out 0 (.int .u8 ((UInt8.ofNat (i + 1)).toNat : Int)) (by unfold fe; rw [← hiu]; rfl)
                      rwa [byte_N2 i (by omega)] at this
                    have C32 : ∀ w2, Keep (fun _ => False) wr w2 → w2.cell? ⟨g1, o1 + k * 37 + 32, none⟩ = some (.int .i64 p) := fun w2 k2 => kcell k2 (R3.out 32 _ (by have := fe_p y; rw [hp] at this; rwa [List.getElem?_toArray] at this))
                    obtain ⟨tv, htv⟩ : ∃ tv, tr.getD i 0 = tv := ⟨_, rfl⟩
                    have htv64 : tv < 64 := by rw [← htv]; exact sub_lt sf hsf6 _ (HTkf.out i)
                    have CT : ∀ w2, Keep (fun _ => False) wr w2 → w2.cell? ⟨bt, i, none⟩ = some (.int .i64 tv) := fun w2 k2 => kcell k2 (by rw [← htv]; exact HM.out.cell 2 rfl i (trV_get (by rw [HTkl.out]; exact him)))
                    rw [htv] at HSt
                    have hsh := shl_N p hp6n
                    have hor : bits BinOp.or IntKind.i64 (tv : Int) ((2 : Int) ^ p) = ((tv ||| 2 ^ p : Nat) : Int) := by have := or_B tv htv64 p hp6n; rwa [Int.natCast_pow] at this
                    clear hr1 hy hak hmem hiu hp hp0 hp6 htv htv64 hp6n
                    go_wp2
                    refine Txt.wp_region_text1 (fun _ => True) [0, 0, 0, 0, 0, 1, 0, 0, 0, 0, 1, 0, 0, 0, 0, 4] (by kernel_rfl) (by kernel_rfl) trivial ?_
                    have HM : Hid _ := HM.out.drew
                    (repeat (first | (refine Txt.tl_pure (v := ?_) (by rfl) ?_ ?_; rotate_left; (focus (intro _; go_simp; try with_reducible rfl)); simp only [Act.put, List.setIfInBounds_toArray, List.set_cons_zero, List.set_cons_succ]) | (refine Txt.tl_load (v := ?_) (by rfl) (by rfl) (by rfl) (by kernel_rfl) ?_ ?_; rotate_left; (focus (first | exact CT _ (Keep.refl _ _).drew | exact C32 _ (Keep.refl _ _).drew)); simp only [Act.put, List.setIfInBounds_toArray, List.set_cons_zero, List.set_cons_succ])))
                    try rw [hor]
                    refine Txt.tl_last (by rfl) (by rfl) ?_
                    refine wp_storeInt rfl rfl rfl rfl (CT _ (Keep.refl _ _).drew) (HM.out.free 2 rfl i) ?_
                    have HM : Hid (M (fun _ => False) w _ [ftI b b2 lv1 hv1 q'.L q'.H q'.a q'.S sf, ids (.slice va m vc) (idsN m), blk bt (.cells ((trV tr).setIfInBounds i (.int .i64 ((tv ||| 2 ^ p : Nat) : Int))) 3), rF (.slice (some ⟨g1, o1, none⟩) nd xc) D]) := HM.out.setc 2 rfl i (.int .i64 ((tv ||| 2 ^ p : Nat) : Int))
                    rw [trV_set, ← HSt.out] at HM
                    go_wp2
                    go_roundw
                    case rel => exact ⟨k + 1, by omega, by go_num, HM.out⟩
                    case measure => simp [intOf]; omega
                  · obtain rfl : k = nd := by omega
                    have eT : tr = q'.tr := by rw [← HTk.out, List.take_of_length_le (by rw [Hnd.out]; exact Nat.le_refl _)]; exact HTr.out
                    subst eT
                    have HM : Hid (M (fun _ => False) w wr [ftI b b2 lv1 hv1 q'.L q'.H q'.a q'.S sf, ids (.slice va m vc) (idsN m), blk bt (trO q'.tr)]) := HM.out.take 3
                    go_wp2
                    go_roundw
                    case rel => exact ⟨r + 1, lv1, hv1, by omega, by go_num, by rw [HQn.out]; exact HM.out⟩
                    case measure => simp [intOf]; omega
              · obtain rfl : r = N := by omega
                obtain ⟨hd1, hd2⟩ := all_done hsf6 hm13 hm1 HG0.out Hq.out.1 Hq.out.2 hN1 hN2
                rw [HQ.out] at hd1 hd2
                have HD1 : Hid (∀ i, i < m → q.tr.getD i 0 = full sf) := hd1
                have HD2 : Hid (q.H = idsN m) := hd2
                have HTl : Hid (q.tr.length = m) := HG.out.l
                have hsh := shl_N sf hsf6
                have hfl := ne_full sf hsf6
                clear hd1 hd2 HQ HG0 Hq hN1 hN2 hlt hr
                go_wp2
        
                go_loopw [19] (fun s19 wr => ∃ (j : Nat), j ≤ m ∧ s19 = .int .i64 j ∧ M (fun _ => False) w wr [ftI b b2 lv hv q.L q.H q.a q.S sf, ids (.slice va m vc) (idsN m), blk bt (trO q.tr)]) (fun s19 _ => m - (intOf s19).toNat)
                case atStart => exact ⟨0, Nat.zero_le _, by go_num, HM.out⟩
                case round =>
                  clear HM
                  obtain ⟨j, hj, rfl, hM⟩ := hrel
                  have HM : Hid (M (fun _ => False) w wr [ftI b b2 lv hv q.L q.H q.a q.S sf, ids (.slice va m vc) (idsN m), blk bt (trO q.tr)]) := hM
                  clear hM
                  by_cases hlt : j < m
                  · have ct : wr.cell? ⟨bt, j, none⟩ = some (.int .i64 ((full sf : Nat) : Int)) := by
                      have := HM.out.cell 2 rfl j (trV_get (tr := q.tr) (by rw [HTl.out]; exact hlt))
                      rwa [HD1.out j hlt] at this
                    go_wp2
                    go_roundw
                    case rel => exact ⟨j + 1, by omega, by go_num, HM.out⟩
                    case measure => simp [intOf]; omega
                  · obtain rfl : j = m := by omega
                    go_wp2_with (first | (go_at_call 11; refine (fheld _ b b2 lv hv q.L q.H q.a q.S sf (HM.out.get 0 rfl) (by have := HG.out.b.hl; omega)).mono ?_; rintro e w5 ⟨v5, rfl, n5⟩; rw [HD2.out] at n5; obtain ⟨xa, xc, e5, at5, _⟩ := n5.1.at; rw [ids_len] at e5 at5; subst e5; have HA5 : Hid (Ids.At w5 xa j (idsN j)) := at5; have HM : Hid _ := HM.out.calm n5.2.1; clear n5 at5) | (go_at_call 10; refine (same_any _ xa va j j xc vc (idsN j) (idsN j) HA5.out (own_idat (HM.out.get 1 rfl))).mono ?_; rw [decide_eq_true (rfl : idsN j = idsN j)]; rintro e w6 ⟨rfl, k6⟩; have HM : Hid _ := HM.out.calm k6; clear k6) | (go_at_call 12; refine (awakeF _).mono ?_; rintro e w9 ⟨rfl, k1⟩; have HM : Hid _ := HM.out.calm k1; clear k1))
                    go_ret
                    exact ⟨rfl, Keep.below HM.out.keep (Nat.le_refl _) (fun _ h => h.elim)⟩
      · go_wp2
        obtain ⟨m, hm⟩ : ∃ m, m0 + 1 = m := ⟨_, rfl⟩
        have hm1 : 0 < m := by omega
        have hm13 : m < 13 := by omega
        rw [show 1 + (m0 : Int) = (m : Int) from by omega]
        clear hm hm12 hm0
        have HM : Hid (M (fun _ => False) w wr [ftI b b2 (.slice none 0 0) (.slice none 0 0) [] [] 0 S sf, ids (.slice none 0 0) []]) := HM.out.nilI
        go_loopw [12, 13] (fun s12 s13 wr => ∃ (k : Nat) (v : Value), k ≤ m ∧ s12 = v ∧ s13 = .int .i64 k ∧ M (fun _ => False) w wr [ftI b b2 (.slice none 0 0) (.slice none 0 0) [] [] 0 S sf, ids v (idsN k)]) (fun _ s13 _ => m - (intOf s13).toNat)
        case atStart => exact ⟨0, _, Nat.zero_le _, rfl, by go_num, HM.out⟩
        case round =>
          clear HM
          obtain ⟨k, v, hk, e12, rfl, hM⟩ := hrel
          replace e12 := e12.symm
          subst e12
          have HM : Hid (M (fun _ => False) w wr [ftI b b2 (.slice none 0 0) (.slice none 0 0) [] [] 0 S sf, ids v (idsN k)]) := hM
          clear hM
          by_cases hlt : k < m
          · have hb8 := byte_N k (by omega)
            have HIl : Hid (List.length (idN k) = 32) := idN_len k
            have HSt : Hid (idsN (k + 1) = idsN k ++ [idN k]) := by show _ = _; unfold idsN; rw [List.range_succ, List.map_append]; rfl
            have HLl : Hid ((idsN k).length ≤ 100) := by show _ ≤ _; rw [ids_len]; omega
            go_wp2_with (first | (refine wl_buildL rfl rfl [(0, .int .u8 ((UInt8.ofNat (k + 1)).toNat : Int))] rfl (cs := ((idN k).map bv).toArray) (built_id (UInt8.ofNat (k + 1))) ?_; simp only [Act.put, List.setIfInBounds_toArray, List.set_cons_zero, List.set_cons_succ]) | (refine Ids.wl_build (l := idN k) rfl rfl HIl.out rfl ?_; have HM : Hid _ := HM.out.alloc (.cells ((idN k).map bv).toArray 32) (by first | rfl | simp only [World.size_alloc]); simp only [Act.put, List.setIfInBounds_toArray, List.set_cons_zero, List.set_cons_succ]) | (refine Ids.wl_app1 rfl rfl rfl (HM.out.get 1 rfl) rfl HIl.out (HM.out.get 2 rfl) (by have := HLl.out; omega) ?_; intro v4 w4 h4 k4 g4; have HM : Hid _ := HM.out.appI 1 rfl h4 k4 g4; clear h4 k4 g4; simp only [Act.put, List.setIfInBounds_toArray, List.set_cons_zero, List.set_cons_succ]))
            go_roundw
            case rel => exact ⟨k + 1, _, by omega, rfl, by go_num, by rw [HSt.out]; exact HM.out.take 2⟩
            case measure => simp [intOf]; omega
          · obtain rfl : m = k := by omega
            have hHil : (idsN m).length = m := ids_len m
            obtain ⟨va, vc, e8, _⟩ := (show Ids.Own _ v (idsN m) from HM.out.get 1 rfl).at
            rw [hHil] at e8
            subst e8
            clear hHil hk hlt
            have HG0 : Hid (Gl sf m ⟨S, [], [], 0, List.replicate m 0⟩) := Gl.start HS.out
            go_wp2_with (first | (refine wl_mkInt (n := m) rfl rfl rfl rfl (by omega) rfl ?_; intro w9 h9 k9; have HM : Hid (M (fun _ => False) w w9 [ftI b b2 (.slice none 0 0) (.slice none 0 0) [] [] 0 S sf, ids (.slice va m vc) (idsN m), blk wr.heap.size (trO (List.replicate m 0))]) := HM.out.add (x := blk wr.heap.size (trO (List.replicate m 0))) k9 h9 (fun k hk => by cases hk; exact ⟨Nat.le_refl _, lt_of_block h9⟩); clear h9 k9; simp only [Act.put, List.setIfInBounds_toArray, List.set_cons_zero, List.set_cons_succ]))
            obtain ⟨bt, hbt⟩ : ∃ q, wr.heap.size = q := ⟨_, rfl⟩
            rw [hbt] at HM ⊢
            clear hbt
            obtain ⟨q0, hq0⟩ : ∃ q : Q, (⟨S, [], [], 0, List.replicate m 0⟩ : Q) = q := ⟨_, rfl⟩
            have Hq : Hid (q0.L = [] ∧ q0.a = 0) := by rw [← hq0]; exact ⟨rfl, rfl⟩
            have HMq : Hid (∃ lv hv, M (fun _ => False) w w9 [ftI b b2 lv hv q0.L q0.H q0.a q0.S sf, ids (.slice va m vc) (idsN m), blk bt (trO q0.tr)]) := by rw [← hq0]; exact ⟨_, _, HM.out⟩
            rw [hq0] at HG0
            obtain ⟨N, hN⟩ : ∃ N : Nat, 28 * (m / 8 + 2) = N := ⟨_, rfl⟩
            have hN1 : 42 ≤ N := by omega
            have hN2 : N ≤ 100 := by omega
            have hNi : (28 : Int) * ((m : Int) / 8 + 2) = (N : Int) := by omega
            clear hq0 HM HS hN
            go_loopw [15] (fun s15 wr => ∃ (r : Nat) (lv hv : Value), r ≤ N ∧ s15 = .int .i64 r ∧ M (fun _ => False) w wr [ftI b b2 lv hv (stQ sf m q0 r).L (stQ sf m q0 r).H (stQ sf m q0 r).a (stQ sf m q0 r).S sf, ids (.slice va m vc) (idsN m), blk bt (trO (stQ sf m q0 r).tr)]) (fun s15 _ => N - (intOf s15).toNat)
            case atStart =>
              obtain ⟨lv, hv, h⟩ := HMq.out
              exact ⟨0, lv, hv, Nat.zero_le _, by go_num, h⟩
            case round =>
              clear HMq
              obtain ⟨r, lv, hv, hr, rfl, hM⟩ := hrel
              obtain ⟨q, hq⟩ : ∃ q, stQ sf m q0 r = q := ⟨_, rfl⟩
              have HQ : Hid (stQ sf m q0 r = q) := hq
              rw [hq] at hM
              have HM : Hid (M (fun _ => False) w wr [ftI b b2 lv hv q.L q.H q.a q.S sf, ids (.slice va m vc) (idsN m), blk bt (trO q.tr)]) := hM
              have HG : Hid (Gl sf m q) := by show Gl _ _ _; rw [← hq]; exact HG0.out.st hsf6 hm13 r (by omega)
              clear hM hq
              by_cases hlt : r < N
              · obtain ⟨q', hq'⟩ : ∃ q', stepQ sf m r q = q' := ⟨_, rfl⟩
                obtain ⟨D, hD⟩ : ∃ D, (roundR sf r (idsN m) q.S q.H q.L q.a).asked = D := ⟨_, rfl⟩
                have HQn : Hid (stQ sf m q0 (r + 1) = q') := by show stepQ sf m r (stQ sf m q0 r) = q'; rw [HQ.out]; exact hq'
                have HQ' : Hid (stepQ sf m r q = q') := hq'
                have HD : Hid ((roundR sf r (idsN m) q.S q.H q.L q.a).asked = D) := hD
                have HAk : Hid (∀ y ∈ D, AskOk sf y ∧ y.u ∈ idsN m) := by show ∀ y ∈ D, _; rw [← hD]; exact (askd hm13 (by omega) HG.out).2
                have HTr : Hid (D.foldl tick q.tr = q'.tr) := by show _ = _; rw [← hD, ← hq']; rfl
                have HTl : Hid (q.tr.length = m) := HG.out.l
                have HTf : Hid (∀ k i, Sb (((D.take k).foldl tick q.tr).getD i 0) (full sf)) := fun k i => ticks_sub hsf6 i _ _ (fun y hy => (HAk.out y (List.mem_of_mem_take hy)).1) (HG.out.f i)
                clear hq' hD
                go_wp2_with (first | (go_at_call 9; refine (fround _ b b2 lv hv q.L q.H q.a q.S sf (HM.out.get 0 rfl) HG.out.b.ok (by have := HG.out.b.len; omega) (by have := HG.out.b.hl; omega) HG.out.b.sc HG.out.b.at_ va m vc (idsN m) (own_idat (HM.out.get 1 rfl)) (by omega) r).mono ?_; rintro e w5 ⟨v5, lv1, hv1, rfl, m5⟩; rw [once_ids m hm13, clk_nat (by omega)] at m5; have HM : Hid (M (fun _ => False) w w5 [ftI b b2 lv1 hv1 q'.L q'.H q'.a q'.S sf, ids (.slice va m vc) (idsN m), blk bt (trO q.tr), rF v5 D]) := (by rw [← HQ'.out, ← HD.out]; exact M.two HM.out 0 rfl m5); clear m5))
                obtain ⟨xa, xc, e5, _⟩ := (show OwnF _ v5 D from HM.out.get 3 rfl).any
                obtain ⟨nd, hnd⟩ : ∃ m, D.length = m := ⟨_, rfl⟩
                have Hnd : Hid (D.length = nd) := hnd
                rw [hnd] at e5
                subst e5
                clear hnd
                go_loopw [17] (fun s17 wr => ∃ (k : Nat), k ≤ nd ∧ s17 = .int .i64 k ∧ M (fun _ => False) w wr [ftI b b2 lv1 hv1 q'.L q'.H q'.a q'.S sf, ids (.slice va m vc) (idsN m), blk bt (trO ((D.take k).foldl tick q.tr)), rF (.slice xa nd xc) D]) (fun s17 _ => nd - (intOf s17).toNat)
                case atStart => exact ⟨0, Nat.zero_le _, by go_num, HM.out⟩
                case round =>
                  clear HM
                  obtain ⟨k, hk, rfl, hM⟩ := hrel
                  obtain ⟨tr, htr⟩ : ∃ tr, (D.take k).foldl tick q.tr = tr := ⟨_, rfl⟩
                  have HTk : Hid ((D.take k).foldl tick q.tr = tr) := htr
                  rw [htr] at hM
                  have HM : Hid (M (fun _ => False) w wr [ftI b b2 lv1 hv1 q'.L q'.H q'.a q'.S sf, ids (.slice va m vc) (idsN m), blk bt (trO tr), rF (.slice xa nd xc) D]) := hM
                  have HTkl : Hid (tr.length = m) := by show _ = _; rw [← htr, ticks_len]; exact HTl.out
                  have HTkf : Hid (∀ i, Sb (tr.getD i 0) (full sf)) := by show ∀ i, _; rw [← htr]; exact HTf.out k
                  clear hM htr
                  by_cases hlt2 : k < nd
                  · obtain ⟨y, hy⟩ : ∃ y, D[k]? = some y := ⟨_, List.getElem?_eq_getElem (by rw [Hnd.out]; exact hlt2)⟩
                    have hmx := (St.Own.slice (show OwnF wr (.slice xa nd xc) D from HM.out.get 3 rfl)).2.most
                    rw [Hnd.out] at hmx
                    unfold maxLen at hmx
                    obtain ⟨g1, o1, e1, _, hr1⟩ := (St.Own.slice (show OwnF wr (.slice xa nd xc) D from HM.out.get 3 rfl)).2.lay.resolve_left (by have := Hnd.out; omega)
                    subst e1
                    have R3 : Hid (wr.rangeAt g1 (o1 + k * 37) (fe y)) := hr1 k y hy
                    obtain ⟨hak, hmem⟩ := HAk.out y (List.mem_of_getElem? hy)
                    obtain ⟨i, him, hiu⟩ := mem_ids.1 hmem
                    obtain ⟨hp0, hp6⟩ := isP_in hak.p
                    obtain ⟨p, hp⟩ : ∃ p : Nat, y.p = (p : Int) := ⟨y.p.toNat, (Int.toNat_of_nonneg hp0).symm⟩
                    have hp6n : p < 6 := by omega
                    have HSt : Hid ((D.take (k + 1)).foldl tick q.tr = tr.set i (tr.getD i 0 ||| 2 ^ p)) := by
                      show _ = _
                      rw [List.take_add_one, hy, List.foldl_append, HTk.out]
                      show tick tr y = _
                      unfold tick
                      rw [← hiu, ix_id i (by omega), hp, Int.toNat_natCast]
                    have cu : wr.cell? ⟨g1, o1 + k * 37, none⟩ = some (.int .u8 ((i : Int) + 1)) := by
                      have := R3.out 0 (.int .u8 ((UInt8.ofNat (i + 1)).toNat : Int)) (by unfold fe; rw [← hiu]; rfl)
                      rwa [byte_N2 i (by omega)] at this
                    have C32 : ∀ w2, Keep (fun _ => False) wr w2 → w2.cell? ⟨g1, o1 + k * 37 + 32, none⟩ = some (.int .i64 p) := fun w2 k2 => kcell k2 (R3.out 32 _ (by have := fe_p y; rw [hp] at this; rwa [List.getElem?_toArray] at this))
                    obtain ⟨tv, htv⟩ : ∃ tv, tr.getD i 0 = tv := ⟨_, rfl⟩
                    have htv64 : tv < 64 := by rw [← htv]; exact sub_lt sf hsf6 _ (HTkf.out i)
                    have CT : ∀ w2, Keep (fun _ => False) wr w2 → w2.cell? ⟨bt, i, none⟩ = some (.int .i64 tv) := fun w2 k2 => kcell k2 (by rw [← htv]; exact HM.out.cell 2 rfl i (trV_get (by rw [HTkl.out]; exact him)))
                    rw [htv] at HSt
                    have hsh := shl_N p hp6n
                    have hor : bits BinOp.or IntKind.i64 (tv : Int) ((2 : Int) ^ p) = ((tv ||| 2 ^ p : Nat) : Int) := by have := or_B tv htv64 p hp6n; rwa [Int.natCast_pow] at this
                    clear hr1 hy hak hmem hiu hp hp0 hp6 htv htv64 hp6n
                    go_wp2
                    refine Txt.wp_region_text1 (fun _ => True) [0, 0, 0, 0, 0, 1, 0, 0, 0, 0, 1, 0, 0, 0, 0, 4] (by kernel_rfl) (by kernel_rfl) trivial ?_
                    have HM : Hid _ := HM.out.drew
                    (repeat (first | (refine Txt.tl_pure (v := ?_) (by rfl) ?_ ?_; rotate_left; (focus (intro _; go_simp; try with_reducible rfl)); simp only [Act.put, List.setIfInBounds_toArray, List.set_cons_zero, List.set_cons_succ]) | (refine Txt.tl_load (v := ?_) (by rfl) (by rfl) (by rfl) (by kernel_rfl) ?_ ?_; rotate_left; (focus (first | exact CT _ (Keep.refl _ _).drew | exact C32 _ (Keep.refl _ _).drew)); simp only [Act.put, List.setIfInBounds_toArray, List.set_cons_zero, List.set_cons_succ])))
                    try rw [hor]
                    refine Txt.tl_last (by rfl) (by rfl) ?_
                    refine wp_storeInt rfl rfl rfl rfl (CT _ (Keep.refl _ _).drew) (HM.out.free 2 rfl i) ?_
                    have HM : Hid (M (fun _ => False) w _ [ftI b b2 lv1 hv1 q'.L q'.H q'.a q'.S sf, ids (.slice va m vc) (idsN m), blk bt (.cells ((trV tr).setIfInBounds i (.int .i64 ((tv ||| 2 ^ p : Nat) : Int))) 3), rF (.slice (some ⟨g1, o1, none⟩) nd xc) D]) := HM.out.setc 2 rfl i (.int .i64 ((tv ||| 2 ^ p : Nat) : Int))
                    rw [trV_set, ← HSt.out] at HM
                    go_wp2
                    go_roundw
                    case rel => exact ⟨k + 1, by omega, by go_num, HM.out⟩
                    case measure => simp [intOf]; omega
                  · obtain rfl : k = nd := by omega
                    have eT : tr = q'.tr := by rw [← HTk.out, List.take_of_length_le (by rw [Hnd.out]; exact Nat.le_refl _)]; exact HTr.out
                    subst eT
                    have HM : Hid (M (fun _ => False) w wr [ftI b b2 lv1 hv1 q'.L q'.H q'.a q'.S sf, ids (.slice va m vc) (idsN m), blk bt (trO q'.tr)]) := HM.out.take 3
                    go_wp2
                    go_roundw
                    case rel => exact ⟨r + 1, lv1, hv1, by omega, by go_num, by rw [HQn.out]; exact HM.out⟩
                    case measure => simp [intOf]; omega
              · obtain rfl : r = N := by omega
                obtain ⟨hd1, hd2⟩ := all_done hsf6 hm13 hm1 HG0.out Hq.out.1 Hq.out.2 hN1 hN2
                rw [HQ.out] at hd1 hd2
                have HD1 : Hid (∀ i, i < m → q.tr.getD i 0 = full sf) := hd1
                have HD2 : Hid (q.H = idsN m) := hd2
                have HTl : Hid (q.tr.length = m) := HG.out.l
                have hsh := shl_N sf hsf6
                have hfl := ne_full sf hsf6
                clear hd1 hd2 HQ HG0 Hq hN1 hN2 hlt hr
                go_wp2
        
                go_loopw [19] (fun s19 wr => ∃ (j : Nat), j ≤ m ∧ s19 = .int .i64 j ∧ M (fun _ => False) w wr [ftI b b2 lv hv q.L q.H q.a q.S sf, ids (.slice va m vc) (idsN m), blk bt (trO q.tr)]) (fun s19 _ => m - (intOf s19).toNat)
                case atStart => exact ⟨0, Nat.zero_le _, by go_num, HM.out⟩
                case round =>
                  clear HM
                  obtain ⟨j, hj, rfl, hM⟩ := hrel
                  have HM : Hid (M (fun _ => False) w wr [ftI b b2 lv hv q.L q.H q.a q.S sf, ids (.slice va m vc) (idsN m), blk bt (trO q.tr)]) := hM
                  clear hM
                  by_cases hlt : j < m
                  · have ct : wr.cell? ⟨bt, j, none⟩ = some (.int .i64 ((full sf : Nat) : Int)) := by
                      have := HM.out.cell 2 rfl j (trV_get (tr := q.tr) (by rw [HTl.out]; exact hlt))
                      rwa [HD1.out j hlt] at this
                    go_wp2
                    go_roundw
                    case rel => exact ⟨j + 1, by omega, by go_num, HM.out⟩
                    case measure => simp [intOf]; omega
                  · obtain rfl : j = m := by omega
                    go_wp2_with (first | (go_at_call 11; refine (fheld _ b b2 lv hv q.L q.H q.a q.S sf (HM.out.get 0 rfl) (by have := HG.out.b.hl; omega)).mono ?_; rintro e w5 ⟨v5, rfl, n5⟩; rw [HD2.out] at n5; obtain ⟨xa, xc, e5, at5, _⟩ := n5.1.at; rw [ids_len] at e5 at5; subst e5; have HA5 : Hid (Ids.At w5 xa j (idsN j)) := at5; have HM : Hid _ := HM.out.calm n5.2.1; clear n5 at5) | (go_at_call 10; refine (same_any _ xa va j j xc vc (idsN j) (idsN j) HA5.out (own_idat (HM.out.get 1 rfl))).mono ?_; rw [decide_eq_true (rfl : idsN j = idsN j)]; rintro e w6 ⟨rfl, k6⟩; have HM : Hid _ := HM.out.calm k6; clear k6) | (go_at_call 12; refine (awakeF _).mono ?_; rintro e w9 ⟨rfl, k1⟩; have HM : Hid _ := HM.out.calm k1; clear k1))
                    go_ret
                    exact ⟨rfl, Keep.below HM.out.keep (Nat.le_refl _) (fun _ h => h.elim)⟩
set_option maxRecDepth 100000 in
theorem own : ownKnob Try.prog.godebug = none := by kernel_rfl
set_option maxRecDepth 100000 in
theorem laidOut : laidOutB Try.prog = true := by kernel_rfl
set_option maxRecDepth 100000 in
theorem contract (H : Type) (enc : TypeId × Value → H) (W : World) (base : Nat) (args : Array Value) (ds gs : List (DataW H)) (before : List MemPlace)
    (hval : ∀ (j : Nat) t v, Try.f3.params[j]? = some t → args[j]? = some v → Value.okWide Try.prog W .any base t v)
    (hW : DataW.Whole enc Try.prog Try.f3.params.toList Rows.fetchRoundSpec.vars false W args.toList ds gs before) :
    Calls Try.prog 3 args W fun e W' => ∃ v, e = .returned v ∧ Rows.fetchRoundSpec.post enc Try.prog Try.f3 false true false false W args v W' := by
  have hW' := hW
  obtain ⟨p, q, hA0, hV, rfl, hfz, hnd⟩ := hW
  have hA : DataW.TrodAll enc Try.prog W 0 (fun _ => true) true Try.f3.params.toList args.toList ds p := hA0
  rw [Try.params3] at hA hval
  obtain ⟨rfl, rfl⟩ := trodVars_none hV
  obtain ⟨v0, vs0, d0, ds0, p0, q0, hargs, rfl, rfl, h0, r0⟩ := trodAll_cons hA
  obtain ⟨v1, vs1, d1, ds1, p1, q1, rfl, rfl, rfl, h1, r1⟩ := trodAll_cons r0
  obtain ⟨v2, vs2, d2, ds2, p2, q2, rfl, rfl, rfl, h2, r2⟩ := trodAll_cons r1
  obtain ⟨rfl, rfl, rfl⟩ := trodAll_nil r2
  obtain rfl : args = #[v0, v1, v2] := by cases args; simp_all
  obtain ⟨x, rfl, rfl, rfl, hx⟩ := open_int Try.underlying5 (hval 0 _ v0 rfl rfl) h0
  obtain ⟨y, rfl, rfl, rfl, hy⟩ := open_int Try.underlying5 (hval 1 _ v1 rfl rfl) h1
  obtain ⟨s, rfl, hs, _⟩ := Opn.open_sl Try.underlying22 rdQl (hval 2 _ v2 rfl rfl) h2
  have hw : (0 ≤ x ∧ x < 256) ∧ (0 ≤ y ∧ y < 256) := by
    simp [Lit.wf, IntKind.min, IntKind.max, IntKind.signed, IntKind.bits] at hx hy
    omega
  refine (walk x y s W hw.1.1 hw.1.2 hw.2.1 hw.2.2 hs).mono fun e W' ⟨he, bel⟩ => ?_
  subst he
  exact ⟨_, rfl, Opn.law_post laidOut (by kernel_rfl) rfl Try.underlying4 rfl rfl hW' bel⟩
set_option maxRecDepth 100000 in
theorem lifted (os : Os) (started : os.Started) (H : Type) (enc : TypeId × Value → H) :
    ReturnsInHanded {} Try.checked os 3 .any (Rows.fetchRoundSpec.pre6 enc Try.prog Try.f3 Rows.fetchRoundRow.domain false) (Rows.fetchRoundSpec.post enc Try.prog Try.f3 false true false false) := by
  refine returnsInHanded_of_change (C := Try.checked) own started (by kernel_rfl) Try.func3
    (ChangeSpec.witness6 (enc := enc) (C := Try.checked) false ⟨#[], #[.int .u8 0, .int .u8 0, .slice none 0 0], []⟩ 8 (by kernel_rfl) (by kernel_rfl) (by kernel_rfl) (by kernel_rfl)) ?_
  intro W base args ds gs before hval0 hW hcnd _
  exact contract H enc W base args ds gs before hval0 hW
theorem over : Rows.fetchRoundRow.holds Try.pinned (OpenSpec.ofChange Rows.fetchRoundSpec) :=
  OpenClaim.holds_of_wide 3 Try.f3 rfl rfl rfl rfl rfl rfl rfl ⟨rfl, rfl, rfl, rfl, rfl⟩ rfl rfl rfl rfl rfl (by kernel_rfl) Try.func3 (by kernel_rfl)
    (of_decide_eq_true (by kernel_rfl)) (by unfold Func.isWrapper; first | (rw [if_pos (by decide +kernel)]; kernel_rfl) | (rw [if_neg (by decide +kernel)]; exact ⟨rfl, rfl⟩))
    (fun os started H enc _ => lifted os started H enc)
theorem proved : Rows.FetchRoundSaid := over
end FetchRound
end Go.Proofs.Ytgllkfolckbdhaa
