/-
  'petrellaw08.HeaderBack': what was put is read as it was, what was read is put as it was. For every input.
-/
import Derived.Test.YthdjbpimjbkajaaDoorHeaderReads
set_option linter.unusedVariables false
set_option linter.unusedSimpArgs false
namespace Go.Proofs.YthdjbpimjbkajaaDoor
open Go.RowKit
namespace HeaderBack
open Oct Ids Gn Hd Go.ChangeShapes Go.WideShapes Go.ChangeAt
open Go.ChangeMaps (open_string shut_string)
open Mem (M blk ids)

theorem M_of {F : Nat → Prop} {w0 w w' : World} {it : List Mem.It} (h : M F w0 w it) {R : HO} {e : Ending} (ho : OfPost R w e w') : ∃ va vc, e = .returned (.tuple #[.agg (hd (.slice va R.l.length vc) R.G R.T R.A R.Q R.Z R.m).toArray, .int .i64 R.e]) ∧ M F w0 w' (it ++ [ids (.slice va R.l.length vc) R.l]) := by
  obtain ⟨v, h1, h2, h3, h4⟩ := ho
  obtain ⟨va, vc, rfl, _, _⟩ := h2.at
  exact ⟨va, vc, h1, h.add (x := ids (.slice va R.l.length vc) R.l) h3 h2 (fun k hk => ⟨h4 k hk, h2.lt hk⟩)⟩
theorem M_ofz {F : Nat → Prop} {w0 w w' : World} {it : List Mem.It} (h : M F w0 w it) {x : Int} {e : Ending} (ho : OfPost (hoz x) w e w') : ∃ va vc, e = .returned (.tuple #[.agg (hd (.slice va 0 vc) 0 ByteArray.empty 0 0 0 Z32).toArray, .int .i64 x]) ∧ M F w0 w' (it ++ [ids (.slice va 0 vc) []]) := M_of h ho
theorem pv_back {s : ByteArray} {n : Nat} {l : List (List UInt8)} {G : Int} {T : ByteArray} {A Q Z : Int} {m : List UInt8} (h : (⟨(hb n l G T A Q Z m).toArray⟩ : ByteArray) = s) : hb n l G T A Q Z m = s.data.toList := by rw [← h]
set_option maxHeartbeats 8000000 in
set_option maxRecDepth 100000 in
theorem walk (G : Int) (T : ByteArray) (A Q Z : Int) (m : List UInt8) (a : Option Addr) (n c : Nat) (l : List (List UInt8)) (s : ByteArray) (w : World) (hT : Sha.TabF w ∧ Sha.TabK w) (hm : m.length = 32) (h1 : At w a n l) (hTz : T.size ≤ maxLen) (hs : s.size ≤ maxLen) :
    Calls Tryd.prog 6 #[.agg (hd (.slice a n c) G T A Q Z m).toArray, .string s] w fun e w' => e = .returned (.bool true) ∧ Below w.heap.size w w' := by
  have HM : Hid (M (fun _ => False) w _ [blk w.heap.size (.cells (hd (.slice a n c) G T A Q Z m).toArray 29)]) := (M.start _ w).alloc (.cells (hd (.slice a n c) G T A Q Z m).toArray 29) rfl
  obtain ⟨g0, g1, g2, g3, g4, g5⟩ := (h_at HM.out 0 rfl rfl hm).cells
  generalize hX : (hd (.slice a n c) G T A Q Z m).toArray = X at HM g0 g1 g2 g3 g4 g5 ⊢
  have HX : Hid ((hd (.slice a n c) G T A Q Z m).toArray = X) := hX
  have A0 : Hid (At w a n l) := h1
  have HF : Hid (Sha.TabF w) := hT.1
  have HK : Hid (Sha.TabK w) := hT.2
  have Hr : Hid (m.length = 32) := hm
  have hm1 := h1.most
  have hln := h1.len
  have h32 := h1.size
  clear hX
  by_cases hgo : n ≤ 60 ∧ s.size ≤ 2000
  · obtain ⟨g60, g61⟩ := hgo
    have Hn : Hid (n ≤ 1000000) := (by omega : n ≤ 1000000)
    have hrl : (ofh s).m.length = 32 := ofh_m s
    by_cases he : (ofh s).e = 0
    · obtain ⟨hc2, hb2, h322, _⟩ := ofh_back s he
      obtain ⟨R, hR⟩ : ∃ R, ofh s = R := ⟨_, rfl⟩
      have HO2 : Hid (∀ w, Calls Tryd.prog 20 #[.string s] w (OfPost R w)) := fun w => hR ▸ of_any_h w s hs
      rw [hR] at he hc2 hb2 h322 hrl
      clear hR
      obtain ⟨e0, l2, G2, T2, B2, Q2, Z2, m2⟩ := R
      simp only at he hc2 hb2 h322 hrl
      subst he
      have hl2 : l2.length ≤ 1000000 := by have := (ck_ok hc2).1; omega
      have hT2 : T2.size ≤ maxLen := by have := tk_len (ck_ok hc2).2.2.2.2.1; unfold maxLen; omega
      have Hr2 : Hid (m2.length = 32) := hrl
      obtain ⟨u, hu⟩ : ∃ u, Sha.sum s.data.toList = u := ⟨_, rfl⟩
      have hul : u.length = 32 := by rw [← hu]; exact Sha.sum_len _
      have Hul : Hid (u.length = 32) := hul
      have Hum : Hid ((u.map bv).toArray.size = 32) := by show _ = _; rw [List.size_toArray, List.length_map]; exact hul
      have HP2 : Hid (∀ w va vc, At w va l2.length l2 → Calls Tryd.prog 12 #[.agg (hd (.slice va l2.length vc) G2 T2 B2 Q2 Z2 m2).toArray] w fun e w' => e = .returned (.tuple #[.string s, .int .i64 0]) ∧ Keep (fun _ => False) w w') := fun w va vc hA => by
        have := put_ok w va l2.length vc l2 G2 T2 B2 Q2 Z2 m2 hA hrl hc2
        rwa [hb2] at this
      have HI2 : Hid (∀ w va vc, Sha.TabF w → Sha.TabK w → At w va l2.length l2 → Calls Tryd.prog 14 #[.agg (hd (.slice va l2.length vc) G2 T2 B2 Q2 Z2 m2).toArray] w fun e w' => e = .returned (.tuple #[idv u, .int .i64 0]) ∧ Keep (fun _ => False) w w') := fun w va vc hF hK hA => by
        have := ident_ok w hF hK va l2.length vc l2 G2 T2 B2 Q2 Z2 m2 hA hrl hc2
        rwa [pv_back hb2, hu] at this
      have HSum : Hid (∀ w, Sha.TabF w → Sha.TabK w → Calls Tryd.prog 22 #[.string s] w fun e w' => e = .returned (idv u) ∧ Keep (fun _ => False) w w') := fun w h1 h2 => hu ▸ Sha.sum_any w s (by omega) h1 h2
      have hcmp : ∀ w, Sem.run Tryd.prog (binOp .eql 23 (.agg (u.map bv).toArray) (idv u)) w = .ok (.bool true) w := fun w => by have := eql_id w u u hul hul; simpa [idv] using this
      clear hc2 hb2 h322 hrl hl2 hT2 hu hul
      by_cases hk : ck n l G T A Q Z = 0
      · skip
        obtain ⟨hR1, hps⟩ := ofh_put hln h32 hm hk _ rfl
        obtain ⟨p, hp⟩ : ∃ p : ByteArray, (⟨(hb n l G T A Q Z m).toArray⟩ : ByteArray) = p := ⟨_, rfl⟩
        have HP1 : Hid (∀ w, At w a n l → Calls Tryd.prog 12 #[.agg (hd (.slice a n c) G T A Q Z m).toArray] w fun e w' => e = .returned (.tuple #[.string p, .int .i64 0]) ∧ Keep (fun _ => False) w w') := fun w hA => hp ▸ put_ok w a n c l G T A Q Z m hA hm hk
        rw [hp] at hR1 hps
        have HO1 : Hid (∀ w, Calls Tryd.prog 20 #[.string p] w (OfPost ⟨0, l, G, T, A, Q, Z, m⟩ w)) := fun w => hR1 ▸ of_any_h w p (by unfold maxLen; omega)
        clear hR1 hp
        clear hk hm h1 hs hT hln h32 hm1 hTz
        go_enter Tryd.func6, Tryd.ntmps6
        go_wp2_with (first | (go_at_call 12; refine (HP1.out _ (A0.out.calm HM.out.keep)).mono ?_; clear HP1; rintro e w1 ⟨rfl, k1⟩; have HM : Hid _ := HM.out.calm k1; clear k1) | (go_at_call 20; refine ((HO1.out _).mono fun _ _ h => M_of HM.out h).mono ?_; clear HO1; rintro e w2 ⟨va1, vc1, rfl, h1⟩; have HM : Hid _ := h1; clear h1) | (refine St.wl_alloc tyH rfl rfl (by (try simp only [World.size_alloc]); rfl) ?_; simp only [Act.put, List.setIfInBounds_toArray, List.set_cons_zero, List.set_cons_succ]) | (refine St.wl_storeN tyH rfl rfl rfl rfl rfl (by (try simp only [World.size_alloc])) (show _ = Value.agg (hd (.slice va1 l.length vc1) G T A Q Z m).toArray from rfl) (hd_sz Hr.out) (hd_sz rfl) (hd_one _ _ _ _ _ _ _ _ _) ?_; have HM : Hid _ := HM.out.alloc (.cells (hd (.slice va1 l.length vc1) G T A Q Z m).toArray 29) rfl) | ((with_reducible refine at_call #[.agg (hd (.slice a n c) G T A Q Z m).toArray, .agg (hd (.slice va1 l.length vc1) G T A Q Z m).toArray] ?_); go_at_call 18; refine (same_h _ a va1 n c l.length vc1 l l G G T T A A Q Q Z Z m m Hr.out Hr.out (A0.out.calm HM.out.keep) (ids_at HM.out 1 rfl rfl) true (smh_self _ _ _ _ _ _ _)).mono ?_; rintro e w3 ⟨rfl, k1⟩; have HM : Hid _ := HM.out.calm k1; clear k1) | (go_at_call 20; refine ((HO2.out _).mono fun _ _ h => M_of HM.out h).mono ?_; clear HO2; rintro e w4 ⟨va2, vc2, rfl, h1⟩; have HM : Hid _ := h1; clear h1) | (refine St.wl_alloc tyH rfl rfl (by (try simp only [World.size_alloc]); rfl) ?_; simp only [Act.put, List.setIfInBounds_toArray, List.set_cons_zero, List.set_cons_succ]) | (refine St.wl_storeN tyH rfl rfl rfl rfl rfl (by (try simp only [World.size_alloc])) (show _ = Value.agg (hd (.slice va2 l2.length vc2) G2 T2 B2 Q2 Z2 m2).toArray from rfl) (hd_sz Hr2.out) (hd_sz rfl) (hd_one _ _ _ _ _ _ _ _ _) ?_; have HM : Hid _ := HM.out.alloc (.cells (hd (.slice va2 l2.length vc2) G2 T2 B2 Q2 Z2 m2).toArray 29) rfl) | (go_at_call 12; refine (HP2.out _ va2 vc2 (ids_at HM.out 3 rfl rfl)).mono ?_; rintro e w5 ⟨rfl, k1⟩; have HM : Hid _ := HM.out.calm k1; clear k1) | (go_at_call 14; refine (HI2.out _ va2 vc2 (HF.out.keep HM.out.keep (fun h => h)) (HK.out.keep HM.out.keep (fun h => h)) (ids_at HM.out 3 rfl rfl)).mono ?_; rintro e w6 ⟨rfl, k1⟩; have HM : Hid _ := HM.out.calm k1; clear k1) | (refine St.wl_alloc tyI rfl rfl (by (try simp only [World.size_alloc]); rfl) ?_; simp only [Act.put, List.setIfInBounds_toArray, List.set_cons_zero, List.set_cons_succ]) | (refine St.wl_storeN tyI rfl rfl rfl rfl rfl (by (try simp only [World.size_alloc])) (show _ = Value.agg (u.map bv).toArray from rfl) Hum.out rfl (one_bv _) ?_; have HM : Hid _ := HM.out.alloc (.cells (u.map bv).toArray 23) rfl) | ((with_reducible refine at_load 29 ?_); first | (refine St.wl_load tyH (by rfl) rfl rfl (h_at HM.out 0 rfl HX.out Hr.out).all (hd_len _ _ _ _ _ _ _ Hr.out) ?_; simp only [Act.put, List.setIfInBounds_toArray, List.set_cons_zero, List.set_cons_succ]) | (refine St.wl_load tyH (by rfl) rfl rfl (HM.out.range 2 rfl) (hd_len _ _ _ _ _ _ _ Hr.out) ?_; simp only [Act.put, List.setIfInBounds_toArray, List.set_cons_zero, List.set_cons_succ]) | (refine St.wl_load tyH (by rfl) rfl rfl (HM.out.range 4 rfl) (hd_len _ _ _ _ _ _ _ Hr2.out) ?_; simp only [Act.put, List.setIfInBounds_toArray, List.set_cons_zero, List.set_cons_succ])))
        obtain ⟨ib, hib⟩ : ∃ b, w6.heap.size = b := ⟨_, rfl⟩
        rw [hib] at HM ⊢
        clear hib
        refine Txt.wp_region_text (fun w' => w'.rangeAt ib 0 (u.map bv)) [0, 0, 0, 0, 0, 0, 0, 0, 2, 0, 4, 0, 0, 0, 0, 0, 0, 0, 4, 0, 0] (by kernel_rfl) (by kernel_rfl) (HM.out.range 5 rfl) ?_
        have HM : Hid _ := HM.out.drew
        (repeat (first | (refine Txt.tl_pure (v := ?_) (by rfl) ?_ ?_; rotate_left; (focus (intro _; go_simp; try with_reducible rfl)); simp only [Act.put, List.setIfInBounds_toArray, List.set_cons_zero, List.set_cons_succ]) | (refine Txt.tl_skip (by rfl) (HM.out.range 5 rfl) ?_; simp only [Act.put, List.setIfInBounds_toArray, List.set_cons_zero, List.set_cons_succ]) | (refine Txt.tl_rowSN (n := 32) (ty := 23) (by rfl) (by rfl) (by rfl) (fun _ h => h) (by kernel_rfl) (by rw [List.length_map]; exact Hul.out) ?_; simp only [Act.put, List.setIfInBounds_toArray, List.set_cons_zero, List.set_cons_succ]) | (refine Txt.tl_rowN (n := 32) (ty := 23) (by rfl) (by rfl) (by rfl) (HM.out.range 5 rfl) (by kernel_rfl) (by rw [List.length_map]; exact Hul.out) ?_; simp only [Act.put, List.setIfInBounds_toArray, List.set_cons_zero, List.set_cons_succ])))
        refine Txt.tl_call Tryd.func22 (by kernel_rfl) (by kernel_rfl) (by rfl) (by rfl) (by rfl) (HSum.out _ (HF.out.keep HM.out.keep (fun h => h)) (HK.out.keep HM.out.keep (fun h => h))) ?_
        rintro e w7 ⟨rfl, k1⟩
        have HM : Hid _ := HM.out.calm k1
        clear k1
        refine ⟨_, rfl, HM.out.range 5 rfl, ?_⟩
        simp only [Act.put, List.setIfInBounds_toArray, List.set_cons_zero, List.set_cons_succ]
        (repeat (first | (refine Txt.tl_pure (v := ?_) (by rfl) ?_ ?_; rotate_left; (focus (intro _; go_simp; try with_reducible rfl)); simp only [Act.put, List.setIfInBounds_toArray, List.set_cons_zero, List.set_cons_succ]) | (refine Txt.tl_skip (by rfl) (HM.out.range 5 rfl) ?_; simp only [Act.put, List.setIfInBounds_toArray, List.set_cons_zero, List.set_cons_succ]) | (refine Txt.tl_rowSN (n := 32) (ty := 23) (by rfl) (by rfl) (by rfl) (fun _ h => h) (by kernel_rfl) (by rw [List.length_map]; exact Hul.out) ?_; simp only [Act.put, List.setIfInBounds_toArray, List.set_cons_zero, List.set_cons_succ]) | (refine Txt.tl_rowN (n := 32) (ty := 23) (by rfl) (by rfl) (by rfl) (HM.out.range 5 rfl) (by kernel_rfl) (by rw [List.length_map]; exact Hul.out) ?_; simp only [Act.put, List.setIfInBounds_toArray, List.set_cons_zero, List.set_cons_succ])))
        refine Txt.tl_call Tryd.func11 (by kernel_rfl) (by kernel_rfl) (by rfl) (by rfl) (by rfl) (awake_any _ (HF.out.keep HM.out.keep (fun h => h)) (HK.out.keep HM.out.keep (fun h => h))) ?_
        rintro e w8 ⟨rfl, k1⟩
        have HM : Hid _ := HM.out.calm k1
        clear k1
        refine ⟨_, rfl, HM.out.range 5 rfl, ?_⟩
        simp only [Act.put, List.setIfInBounds_toArray, List.set_cons_zero, List.set_cons_succ]
        (repeat (first | (refine Txt.tl_pure (v := ?_) (by rfl) ?_ ?_; rotate_left; (focus (intro _; go_simp; try with_reducible rfl)); simp only [Act.put, List.setIfInBounds_toArray, List.set_cons_zero, List.set_cons_succ]) | (refine Txt.tl_skip (by rfl) (HM.out.range 5 rfl) ?_; simp only [Act.put, List.setIfInBounds_toArray, List.set_cons_zero, List.set_cons_succ]) | (refine Txt.tl_rowSN (n := 32) (ty := 23) (by rfl) (by rfl) (by rfl) (fun _ h => h) (by kernel_rfl) (by rw [List.length_map]; exact Hul.out) ?_; simp only [Act.put, List.setIfInBounds_toArray, List.set_cons_zero, List.set_cons_succ]) | (refine Txt.tl_rowN (n := 32) (ty := 23) (by rfl) (by rfl) (by rfl) (HM.out.range 5 rfl) (by kernel_rfl) (by rw [List.length_map]; exact Hul.out) ?_; simp only [Act.put, List.setIfInBounds_toArray, List.set_cons_zero, List.set_cons_succ])))
        refine Txt.tl_nil ?_
        go_wp2
        go_ret
        exact ⟨rfl, Keep.below HM.out.keep (Nat.le_refl _) (fun _ h => h.elim)⟩
      · skip
        obtain ⟨q, hq⟩ : ∃ q, ck n l G T A Q Z = q := ⟨_, rfl⟩
        rw [hq] at hk
        have hk1 : (q == 0) = false := by simpa using hk
        have HP1 : Hid (∀ w, At w a n l → Calls Tryd.prog 12 #[.agg (hd (.slice a n c) G T A Q Z m).toArray] w fun e w' => e = .returned (.tuple #[.string ByteArray.empty, .int .i64 q]) ∧ Keep (fun _ => False) w w') := fun w hA => put_bad w a n c l G T A Q Z m hA hm Hn.out hTz q hq hk
        clear hq
        clear hk hm h1 hs hT hln h32 hm1 hTz
        go_enter Tryd.func6, Tryd.ntmps6
        go_wp2_with (first | (go_at_call 12; refine (HP1.out _ (A0.out.calm HM.out.keep)).mono ?_; clear HP1; rintro e w1 ⟨rfl, k1⟩; have HM : Hid _ := HM.out.calm k1; clear k1) | (go_at_call 20; refine ((HO2.out _).mono fun _ _ h => M_of HM.out h).mono ?_; clear HO2; rintro e w4 ⟨va2, vc2, rfl, h1⟩; have HM : Hid _ := h1; clear h1) | (refine St.wl_alloc tyH rfl rfl (by (try simp only [World.size_alloc]); rfl) ?_; simp only [Act.put, List.setIfInBounds_toArray, List.set_cons_zero, List.set_cons_succ]) | (refine St.wl_storeN tyH rfl rfl rfl rfl rfl (by (try simp only [World.size_alloc])) (show _ = Value.agg (hd (.slice va2 l2.length vc2) G2 T2 B2 Q2 Z2 m2).toArray from rfl) (hd_sz Hr2.out) (hd_sz rfl) (hd_one _ _ _ _ _ _ _ _ _) ?_; have HM : Hid _ := HM.out.alloc (.cells (hd (.slice va2 l2.length vc2) G2 T2 B2 Q2 Z2 m2).toArray 29) rfl) | (go_at_call 12; refine (HP2.out _ va2 vc2 (ids_at HM.out 1 rfl rfl)).mono ?_; rintro e w5 ⟨rfl, k1⟩; have HM : Hid _ := HM.out.calm k1; clear k1) | (go_at_call 14; refine (HI2.out _ va2 vc2 (HF.out.keep HM.out.keep (fun h => h)) (HK.out.keep HM.out.keep (fun h => h)) (ids_at HM.out 1 rfl rfl)).mono ?_; rintro e w6 ⟨rfl, k1⟩; have HM : Hid _ := HM.out.calm k1; clear k1) | (refine St.wl_alloc tyI rfl rfl (by (try simp only [World.size_alloc]); rfl) ?_; simp only [Act.put, List.setIfInBounds_toArray, List.set_cons_zero, List.set_cons_succ]) | (refine St.wl_storeN tyI rfl rfl rfl rfl rfl (by (try simp only [World.size_alloc])) (show _ = Value.agg (u.map bv).toArray from rfl) Hum.out rfl (one_bv _) ?_; have HM : Hid _ := HM.out.alloc (.cells (u.map bv).toArray 23) rfl) | ((with_reducible refine at_load 29 ?_); first | (refine St.wl_load tyH (by rfl) rfl rfl (h_at HM.out 0 rfl HX.out Hr.out).all (hd_len _ _ _ _ _ _ _ Hr.out) ?_; simp only [Act.put, List.setIfInBounds_toArray, List.set_cons_zero, List.set_cons_succ]) | (refine St.wl_load tyH (by rfl) rfl rfl (HM.out.range 2 rfl) (hd_len _ _ _ _ _ _ _ Hr2.out) ?_; simp only [Act.put, List.setIfInBounds_toArray, List.set_cons_zero, List.set_cons_succ])))
        obtain ⟨ib, hib⟩ : ∃ b, w6.heap.size = b := ⟨_, rfl⟩
        rw [hib] at HM ⊢
        clear hib
        refine Txt.wp_region_text (fun w' => w'.rangeAt ib 0 (u.map bv)) [0, 0, 0, 0, 0, 0, 0, 0, 2, 0, 4, 0, 0, 0, 0, 0, 0, 0, 4, 0, 0] (by kernel_rfl) (by kernel_rfl) (HM.out.range 3 rfl) ?_
        have HM : Hid _ := HM.out.drew
        (repeat (first | (refine Txt.tl_pure (v := ?_) (by rfl) ?_ ?_; rotate_left; (focus (intro _; go_simp; try with_reducible rfl)); simp only [Act.put, List.setIfInBounds_toArray, List.set_cons_zero, List.set_cons_succ]) | (refine Txt.tl_skip (by rfl) (HM.out.range 3 rfl) ?_; simp only [Act.put, List.setIfInBounds_toArray, List.set_cons_zero, List.set_cons_succ]) | (refine Txt.tl_rowSN (n := 32) (ty := 23) (by rfl) (by rfl) (by rfl) (fun _ h => h) (by kernel_rfl) (by rw [List.length_map]; exact Hul.out) ?_; simp only [Act.put, List.setIfInBounds_toArray, List.set_cons_zero, List.set_cons_succ]) | (refine Txt.tl_rowN (n := 32) (ty := 23) (by rfl) (by rfl) (by rfl) (HM.out.range 3 rfl) (by kernel_rfl) (by rw [List.length_map]; exact Hul.out) ?_; simp only [Act.put, List.setIfInBounds_toArray, List.set_cons_zero, List.set_cons_succ])))
        refine Txt.tl_call Tryd.func22 (by kernel_rfl) (by kernel_rfl) (by rfl) (by rfl) (by rfl) (HSum.out _ (HF.out.keep HM.out.keep (fun h => h)) (HK.out.keep HM.out.keep (fun h => h))) ?_
        rintro e w7 ⟨rfl, k1⟩
        have HM : Hid _ := HM.out.calm k1
        clear k1
        refine ⟨_, rfl, HM.out.range 3 rfl, ?_⟩
        simp only [Act.put, List.setIfInBounds_toArray, List.set_cons_zero, List.set_cons_succ]
        (repeat (first | (refine Txt.tl_pure (v := ?_) (by rfl) ?_ ?_; rotate_left; (focus (intro _; go_simp; try with_reducible rfl)); simp only [Act.put, List.setIfInBounds_toArray, List.set_cons_zero, List.set_cons_succ]) | (refine Txt.tl_skip (by rfl) (HM.out.range 3 rfl) ?_; simp only [Act.put, List.setIfInBounds_toArray, List.set_cons_zero, List.set_cons_succ]) | (refine Txt.tl_rowSN (n := 32) (ty := 23) (by rfl) (by rfl) (by rfl) (fun _ h => h) (by kernel_rfl) (by rw [List.length_map]; exact Hul.out) ?_; simp only [Act.put, List.setIfInBounds_toArray, List.set_cons_zero, List.set_cons_succ]) | (refine Txt.tl_rowN (n := 32) (ty := 23) (by rfl) (by rfl) (by rfl) (HM.out.range 3 rfl) (by kernel_rfl) (by rw [List.length_map]; exact Hul.out) ?_; simp only [Act.put, List.setIfInBounds_toArray, List.set_cons_zero, List.set_cons_succ])))
        refine Txt.tl_call Tryd.func11 (by kernel_rfl) (by kernel_rfl) (by rfl) (by rfl) (by rfl) (awake_any _ (HF.out.keep HM.out.keep (fun h => h)) (HK.out.keep HM.out.keep (fun h => h))) ?_
        rintro e w8 ⟨rfl, k1⟩
        have HM : Hid _ := HM.out.calm k1
        clear k1
        refine ⟨_, rfl, HM.out.range 3 rfl, ?_⟩
        simp only [Act.put, List.setIfInBounds_toArray, List.set_cons_zero, List.set_cons_succ]
        (repeat (first | (refine Txt.tl_pure (v := ?_) (by rfl) ?_ ?_; rotate_left; (focus (intro _; go_simp; try with_reducible rfl)); simp only [Act.put, List.setIfInBounds_toArray, List.set_cons_zero, List.set_cons_succ]) | (refine Txt.tl_skip (by rfl) (HM.out.range 3 rfl) ?_; simp only [Act.put, List.setIfInBounds_toArray, List.set_cons_zero, List.set_cons_succ]) | (refine Txt.tl_rowSN (n := 32) (ty := 23) (by rfl) (by rfl) (by rfl) (fun _ h => h) (by kernel_rfl) (by rw [List.length_map]; exact Hul.out) ?_; simp only [Act.put, List.setIfInBounds_toArray, List.set_cons_zero, List.set_cons_succ]) | (refine Txt.tl_rowN (n := 32) (ty := 23) (by rfl) (by rfl) (by rfl) (HM.out.range 3 rfl) (by kernel_rfl) (by rw [List.length_map]; exact Hul.out) ?_; simp only [Act.put, List.setIfInBounds_toArray, List.set_cons_zero, List.set_cons_succ])))
        refine Txt.tl_nil ?_
        go_wp2
        go_ret
        exact ⟨rfl, Keep.below HM.out.keep (Nat.le_refl _) (fun _ h => h.elim)⟩
    · have hR := ofh_bad s he
      obtain ⟨e0, he0⟩ : ∃ e0, (ofh s).e = e0 := ⟨_, rfl⟩
      rw [he0] at hR he
      have he1 : (e0 != 0) = true := by simpa using he
      have HO2 : Hid (∀ w, Calls Tryd.prog 20 #[.string s] w (OfPost (hoz e0) w)) := fun w => hR ▸ of_any_h w s hs
      have HZ : Hid (∀ w va vc, At w va 0 [] → Calls Tryd.prog 18 #[.agg (hd (.slice va 0 vc) 0 ByteArray.empty 0 0 0 Z32).toArray, .agg hz0] w fun e w' => e = .returned (.bool true) ∧ Keep (fun _ => False) w w') := fun w va vc hA => same_h w va none 0 vc 0 0 [] [] 0 0 ByteArray.empty ByteArray.empty 0 0 0 0 0 0 Z32 Z32 rfl rfl hA (nil_at w) true (smh_self _ _ _ _ _ _ _)
      have Hr2 : Hid (Z32.length = 32) := (rfl : Z32.length = 32)
      clear hR he0 he hrl
      by_cases hk : ck n l G T A Q Z = 0
      · skip
        obtain ⟨hR1, hps⟩ := ofh_put hln h32 hm hk _ rfl
        obtain ⟨p, hp⟩ : ∃ p : ByteArray, (⟨(hb n l G T A Q Z m).toArray⟩ : ByteArray) = p := ⟨_, rfl⟩
        have HP1 : Hid (∀ w, At w a n l → Calls Tryd.prog 12 #[.agg (hd (.slice a n c) G T A Q Z m).toArray] w fun e w' => e = .returned (.tuple #[.string p, .int .i64 0]) ∧ Keep (fun _ => False) w w') := fun w hA => hp ▸ put_ok w a n c l G T A Q Z m hA hm hk
        rw [hp] at hR1 hps
        have HO1 : Hid (∀ w, Calls Tryd.prog 20 #[.string p] w (OfPost ⟨0, l, G, T, A, Q, Z, m⟩ w)) := fun w => hR1 ▸ of_any_h w p (by unfold maxLen; omega)
        clear hR1 hp
        clear hk hm h1 hs hT hln h32 hm1 hTz
        go_enter Tryd.func6, Tryd.ntmps6
        go_wp2_with (first | (go_at_call 12; refine (HP1.out _ (A0.out.calm HM.out.keep)).mono ?_; clear HP1; rintro e w1 ⟨rfl, k1⟩; have HM : Hid _ := HM.out.calm k1; clear k1) | (go_at_call 20; refine ((HO1.out _).mono fun _ _ h => M_of HM.out h).mono ?_; clear HO1; rintro e w2 ⟨va1, vc1, rfl, h1⟩; have HM : Hid _ := h1; clear h1) | (refine St.wl_alloc tyH rfl rfl (by (try simp only [World.size_alloc]); rfl) ?_; simp only [Act.put, List.setIfInBounds_toArray, List.set_cons_zero, List.set_cons_succ]) | (refine St.wl_storeN tyH rfl rfl rfl rfl rfl (by (try simp only [World.size_alloc])) (show _ = Value.agg (hd (.slice va1 l.length vc1) G T A Q Z m).toArray from rfl) (hd_sz Hr.out) (hd_sz rfl) (hd_one _ _ _ _ _ _ _ _ _) ?_; have HM : Hid _ := HM.out.alloc (.cells (hd (.slice va1 l.length vc1) G T A Q Z m).toArray 29) rfl) | ((with_reducible refine at_call #[.agg (hd (.slice a n c) G T A Q Z m).toArray, .agg (hd (.slice va1 l.length vc1) G T A Q Z m).toArray] ?_); go_at_call 18; refine (same_h _ a va1 n c l.length vc1 l l G G T T A A Q Q Z Z m m Hr.out Hr.out (A0.out.calm HM.out.keep) (ids_at HM.out 1 rfl rfl) true (smh_self _ _ _ _ _ _ _)).mono ?_; rintro e w3 ⟨rfl, k1⟩; have HM : Hid _ := HM.out.calm k1; clear k1) | (go_at_call 11; refine (awake_any _ (HF.out.keep HM.out.keep (fun h => h)) (HK.out.keep HM.out.keep (fun h => h))).mono ?_; rintro e w9 ⟨rfl, k1⟩; have HM : Hid _ := HM.out.calm k1; clear k1) | (go_at_call 20; refine ((HO2.out _).mono fun _ _ h => M_ofz HM.out h).mono ?_; clear HO2; rintro e w4 ⟨va2, vc2, rfl, h1⟩; have HM : Hid _ := h1; clear h1) | (refine St.wl_alloc tyH rfl rfl (by (try simp only [World.size_alloc]); rfl) ?_; simp only [Act.put, List.setIfInBounds_toArray, List.set_cons_zero, List.set_cons_succ]) | (refine St.wl_storeN tyH rfl rfl rfl rfl rfl (by (try simp only [World.size_alloc])) (show _ = Value.agg (hd (.slice va2 0 vc2) 0 ByteArray.empty 0 0 0 Z32).toArray from rfl) (hd_sz rfl) (hd_sz rfl) (hd_one _ _ _ _ _ _ _ _ _) ?_; have HM : Hid _ := HM.out.alloc (.cells (hd (.slice va2 0 vc2) 0 ByteArray.empty 0 0 0 Z32).toArray 29) rfl) | (refine St.wl_buildV (T := 29) rfl rfl (cs := hz0) (by kernel_rfl) ?_; simp only [Act.put, List.setIfInBounds_toArray, List.set_cons_zero, List.set_cons_succ]) | (go_at_call 18; refine (HZ.out _ va2 vc2 (ids_at HM.out 3 rfl rfl)).mono ?_; rintro e w5 ⟨rfl, k1⟩; have HM : Hid _ := HM.out.calm k1; clear k1) | ((with_reducible refine at_load 29 ?_); first | (refine St.wl_load tyH (by rfl) rfl rfl (h_at HM.out 0 rfl HX.out Hr.out).all (hd_len _ _ _ _ _ _ _ Hr.out) ?_; simp only [Act.put, List.setIfInBounds_toArray, List.set_cons_zero, List.set_cons_succ]) | (refine St.wl_load tyH (by rfl) rfl rfl (HM.out.range 2 rfl) (hd_len _ _ _ _ _ _ _ Hr.out) ?_; simp only [Act.put, List.setIfInBounds_toArray, List.set_cons_zero, List.set_cons_succ]) | (refine St.wl_load tyH (by rfl) rfl rfl (HM.out.range 4 rfl) (hd_len _ _ _ _ _ _ _ Hr2.out) ?_; simp only [Act.put, List.setIfInBounds_toArray, List.set_cons_zero, List.set_cons_succ])))
        go_ret
        exact ⟨rfl, Keep.below HM.out.keep (Nat.le_refl _) (fun _ h => h.elim)⟩
      · skip
        obtain ⟨q, hq⟩ : ∃ q, ck n l G T A Q Z = q := ⟨_, rfl⟩
        rw [hq] at hk
        have hk1 : (q == 0) = false := by simpa using hk
        have HP1 : Hid (∀ w, At w a n l → Calls Tryd.prog 12 #[.agg (hd (.slice a n c) G T A Q Z m).toArray] w fun e w' => e = .returned (.tuple #[.string ByteArray.empty, .int .i64 q]) ∧ Keep (fun _ => False) w w') := fun w hA => put_bad w a n c l G T A Q Z m hA hm Hn.out hTz q hq hk
        clear hq
        clear hk hm h1 hs hT hln h32 hm1 hTz
        go_enter Tryd.func6, Tryd.ntmps6
        go_wp2_with (first | (go_at_call 12; refine (HP1.out _ (A0.out.calm HM.out.keep)).mono ?_; clear HP1; rintro e w1 ⟨rfl, k1⟩; have HM : Hid _ := HM.out.calm k1; clear k1) | (go_at_call 11; refine (awake_any _ (HF.out.keep HM.out.keep (fun h => h)) (HK.out.keep HM.out.keep (fun h => h))).mono ?_; rintro e w9 ⟨rfl, k1⟩; have HM : Hid _ := HM.out.calm k1; clear k1) | (go_at_call 20; refine ((HO2.out _).mono fun _ _ h => M_ofz HM.out h).mono ?_; clear HO2; rintro e w4 ⟨va2, vc2, rfl, h1⟩; have HM : Hid _ := h1; clear h1) | (refine St.wl_alloc tyH rfl rfl (by (try simp only [World.size_alloc]); rfl) ?_; simp only [Act.put, List.setIfInBounds_toArray, List.set_cons_zero, List.set_cons_succ]) | (refine St.wl_storeN tyH rfl rfl rfl rfl rfl (by (try simp only [World.size_alloc])) (show _ = Value.agg (hd (.slice va2 0 vc2) 0 ByteArray.empty 0 0 0 Z32).toArray from rfl) (hd_sz rfl) (hd_sz rfl) (hd_one _ _ _ _ _ _ _ _ _) ?_; have HM : Hid _ := HM.out.alloc (.cells (hd (.slice va2 0 vc2) 0 ByteArray.empty 0 0 0 Z32).toArray 29) rfl) | (refine St.wl_buildV (T := 29) rfl rfl (cs := hz0) (by kernel_rfl) ?_; simp only [Act.put, List.setIfInBounds_toArray, List.set_cons_zero, List.set_cons_succ]) | (go_at_call 18; refine (HZ.out _ va2 vc2 (ids_at HM.out 1 rfl rfl)).mono ?_; rintro e w5 ⟨rfl, k1⟩; have HM : Hid _ := HM.out.calm k1; clear k1) | ((with_reducible refine at_load 29 ?_); first | (refine St.wl_load tyH (by rfl) rfl rfl (h_at HM.out 0 rfl HX.out Hr.out).all (hd_len _ _ _ _ _ _ _ Hr.out) ?_; simp only [Act.put, List.setIfInBounds_toArray, List.set_cons_zero, List.set_cons_succ]) | (refine St.wl_load tyH (by rfl) rfl rfl (HM.out.range 2 rfl) (hd_len _ _ _ _ _ _ _ Hr2.out) ?_; simp only [Act.put, List.setIfInBounds_toArray, List.set_cons_zero, List.set_cons_succ])))
        go_ret
        exact ⟨rfl, Keep.below HM.out.keep (Nat.le_refl _) (fun _ h => h.elim)⟩
  · unfold maxLen at hs hm1
    have hgo' : 60 < n ∨ (n ≤ 60 ∧ 2000 < s.size) := by omega
    clear hgo hT hm h1 hln h32 hTz
    rcases hgo' with h | ⟨h, h'⟩
    all_goals
      go_enter Tryd.func6, Tryd.ntmps6
      go_wp2_with (first | (go_at_call 11; refine (awake_any _ (HF.out.keep HM.out.keep (fun h => h)) (HK.out.keep HM.out.keep (fun h => h))).mono ?_; rintro e w9 ⟨rfl, k1⟩; have HM : Hid _ := HM.out.calm k1; clear k1))
      go_ret
      exact ⟨rfl, Keep.below HM.out.keep (Nat.le_refl _) (fun _ h => h.elim)⟩

set_option maxRecDepth 100000 in
theorem own : ownKnob Tryd.prog.godebug = none := by kernel_rfl
set_option maxRecDepth 100000 in
theorem laidOut : laidOutB Tryd.prog = true := by kernel_rfl
set_option maxRecDepth 100000 in
theorem contract (H : Type) (enc : TypeId × Value → H) (W : World) (base : Nat) (args : Array Value) (ds gs : List (DataW H)) (before : List MemPlace)
    (hval : ∀ (j : Nat) t v, Tryd.f6.params[j]? = some t → args[j]? = some v → Value.okWide Tryd.prog W .any base t v)
    (hW : DataW.Whole enc Tryd.prog Tryd.f6.params.toList Rows.headerBackSpec.vars false W args.toList ds gs before) (hL : laidMetH Tryd.prog Rows.headerBackRow.laid W) :
    Calls Tryd.prog 6 args W fun e W' => ∃ v, e = .returned v ∧ Rows.headerBackSpec.post enc Tryd.prog Tryd.f6 false true false false W args v W' := by
  have hW' := hW
  have hTab := Lad.sha_of hL
  obtain ⟨p, q, hA0, hV, rfl, hfz, hnd⟩ := hW
  have hA : DataW.TrodAll enc Tryd.prog W 0 (fun _ => true) true Tryd.f6.params.toList args.toList ds p := hA0
  rw [Tryd.params6] at hA hval
  obtain ⟨rfl, rfl⟩ := trodVars_none hV
  obtain ⟨v0, vs0, d0, ds0, p0, q0, hargs, rfl, rfl, h0, r0⟩ := trodAll_cons hA
  obtain ⟨v1, vs1, d1, ds1, p1, q1, rfl, rfl, rfl, h1, r1⟩ := trodAll_cons r0
  obtain ⟨rfl, rfl, rfl⟩ := trodAll_nil r1
  obtain rfl : args = #[v0, v1] := by cases args; simp_all
  obtain ⟨x, rfl, f0, _⟩ := Opn.open_st Tryd.underlying29 rdH (hval 0 _ v0 rfl rfl) h0
  obtain ⟨s, rfl, rfl, rfl, hs⟩ := open_string Tryd.underlying9 (hval 1 _ v1 rfl rfl) h1
  refine (walk x.2.1 x.2.2.1 x.2.2.2.1 x.2.2.2.2.1 x.2.2.2.2.2.1 x.2.2.2.2.2.2.1 x.1.a x.1.len x.1.cap x.1.els s W hTab f0.1 f0.2.1 f0.2.2.1 hs).mono fun e W' ⟨he, bel⟩ => ?_
  subst he
  exact ⟨_, rfl, Opn.law_post laidOut (by kernel_rfl) rfl Tryd.underlying4 rfl rfl hW' bel⟩
set_option maxRecDepth 100000 in
theorem lifted (os : Os) (started : os.Started) (H : Type) (enc : TypeId × Value → H) :
    ReturnsInHanded {} Tryd.checked os 6 .any (fun w args => (Rows.headerBackSpec.pre enc Tryd.prog Tryd.f6 [] false w args ∧ laidMetH Tryd.prog Rows.headerBackRow.laid w) ∧ sizedMet enc Tryd.prog Tryd.f6 (OpenSpec.ofChange Rows.headerBackSpec) false w args)
      (Rows.headerBackSpec.post enc Tryd.prog Tryd.f6 false true false false) := by
  refine returnsInHanded_of_change_and (C := Tryd.checked) (X := fun w _ => laidMetH Tryd.prog Rows.headerBackRow.laid w) (fun _ _ _ hh h => h.of_heap hh) own started (by kernel_rfl) Tryd.func6
    (ChangeSpec.witness_shaped (enc := enc) (C := Tryd.checked) (os := os) (X := fun w _ => laidMetH Tryd.prog Rows.headerBackRow.laid w) false (World.laidAll Tryd.prog os Rows.headerBackRow.laid) #[.agg hz0, .string .empty] 8 (World.laidAll_os _ _ _)
      (World.shaped_of_ZipB (by kernel_rfl) (by kernel_rfl)) (by kernel_rfl) (by kernel_rfl) (by kernel_rfl)
      (by rw [MakeChecks.laidMetH_plain _ _ _ (by kernel_rfl)]; exact laidMet_laidAll _ (by kernel_rfl) (by kernel_rfl))) ?_
  intro W base args ds gs before hval0 hW _ _ hL _
  exact contract H enc W base args ds gs before hval0 hW hL
theorem over : Rows.headerBackRow.holds Tryd.pinned (OpenSpec.ofChange Rows.headerBackSpec) :=
  OpenClaim.holds_of_wide 6 Tryd.f6 rfl rfl rfl rfl rfl rfl rfl ⟨rfl, rfl, rfl, rfl, rfl⟩ rfl rfl rfl rfl rfl (by kernel_rfl) Tryd.func6 (by kernel_rfl)
    (of_decide_eq_true (by kernel_rfl)) (by unfold Func.isWrapper; first | (rw [if_pos (by decide +kernel)]; kernel_rfl) | (rw [if_neg (by decide +kernel)]; exact ⟨rfl, rfl⟩))
    (fun os started H enc _ => lifted os started H enc)
theorem proved : Rows.HeaderBackCardSaid :=
  Claim7.holds_tied_plain_at .later [] [.data, .data] true _ false over (fun _ h => by cases h) (by kernel_rfl) (fun _ h => by cases h) headerBack_row_tie rfl ⟨rfl, rfl⟩ (by kernel_rfl) rfl
    (fun f fn hf hfn => by
      obtain rfl : f = 6 := Option.some.inj ((show Tryd.prog.funcNamed "petrel/petrellaw08.HeaderBack" = some 6 by kernel_rfl).symm.trans hf) |>.symm
      obtain rfl : fn = Tryd.f6 := (Option.some.inj (Tryd.func6.symm.trans hfn)).symm
      exact ⟨by kernel_rfl, fun j t ht => by
        rw [Tryd.params6] at ht
        have hm : t ∈ [29, 9] := by simpa using Array.mem_of_getElem? ht
        have hall : ([29, 9].all fun u => !Tryd.prog.wantsStandIn u) = true := by kernel_rfl
        exact (show Tryd.prog.wantsStandIn t = false by simpa using List.all_eq_true.1 hall t hm)⟩)
    (by kernel_rfl)
end HeaderBack
end Go.Proofs.YthdjbpimjbkajaaDoor
