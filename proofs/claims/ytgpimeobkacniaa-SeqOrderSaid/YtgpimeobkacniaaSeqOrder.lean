/-
  'petrellaw25.SeqOrder': the order plays no part: the same calls, where each id has one node, from the last to the first, some of them twice, put and loaded in between. For every input.
-/
import Derived.Test.YtgpimeobkacniaaSqN
import Derived.Test.YtgpimeobkacniaaOpnU
set_option linter.unusedVariables false
set_option linter.unusedSimpArgs false
namespace Go.Proofs.Ytgpimeobkacniaa
open Go.RowKit Go.ChangeShapes Go.WideShapes Go.ChangeAt
namespace SeqOrder
open Oct Ids Sq
open Mem (M It blk ids rows)
/-- A list of the program's, and the calls that it has had. -/
structure Obj (N : Nds) (B : Bhs) (G : List Wd) (X : List Dn) (Gd : List Wd) (C : List Ak) : Prop where
  inv : Inv N B
  alk : Alk X N
  gon : Gon G Gd
  sum : Sum C X Gd
  nl : N.length ≤ C.length
  gl : Gd.length ≤ C.length
theorem Obj.nil : Obj [] [] [] [] [] [] := ⟨Inv.nil, Alk.nil, Gon.nil, Sum.nil, Nat.le_refl _, Nat.le_refl _⟩
theorem Obj.step {N : Nds} {B B' : Bhs} {G : List Wd} {X : List Dn} {Gd : List Wd} {C : List Ak} (h : Obj N B G X Gd C) (x : Ak) (ho : ∀ b ∈ C, x.d.u = b.d.u → x.d = b.d) (hi : Inv (stN N x) B') : Obj (stN N x) B' (stA G x) (stX X x) (stG Gd x) (C ++ [x]) :=
  ⟨hi, alk_step h.alk x, gon_step2 h.gon x, h.sum.step x ho, Nat.le_trans (stN_len N x) (by rw [List.length_append]; exact Nat.add_le_add_right h.nl 1), Nat.le_trans (stG_len Gd x) (by rw [List.length_append]; exact Nat.add_le_add_right h.gl 1)⟩
theorem Obj.ck {N : Nds} {B : Bhs} {G : List Wd} {X : List Dn} {Gd : List Wd} {C : List Ak} (h : Obj N B G X Gd C) : ∀ d ∈ X, chk d.u d.x = 0 := fun d hd => (h.inv.ok _ (h.alk.mem hd)).2
theorem Obj.xl {N : Nds} {B : Bhs} {G : List Wd} {X : List Dn} {Gd : List Wd} {C : List Ak} (h : Obj N B G X Gd C) : X.length ≤ C.length := by rw [h.alk.len]; exact h.nl
theorem Obj.each {N : Nds} {B : Bhs} {G : List Wd} {X : List Dn} {Gd : List Wd} {C : List Ak} (h : Obj N B G X Gd C) : ∀ u ∈ Gd, u.length = 32 := fun u hu => by
  obtain ⟨a, _, _, e⟩ := (h.sum.gm u).1 hu
  rw [← e]
  exact a.d.hu
/-- Loaded again. -/
theorem Obj.again {N N' : Nds} {B B' : Bhs} {G : List Wd} {X : List Dn} {Gd : List Wd} {C : List Ak} (h : Obj N B G X Gd C) (hi : Inv N' B') (ha : Alk X N') : Obj N' B' Gd X Gd C :=
  ⟨hi, ha, ⟨h.gon.srt, fun _ => Iff.rfl, IdL.srt_nodup h.gon.srt⟩, h.sum, by rw [← ha.len]; exact h.xl, h.gl⟩
/-- What is put is loaded. -/
theorem load_put {w w' : World} {e : Ending} {N : Nds} {B : Bhs} {G : List Wd} {X : List Dn} {Gd : List Wd} {C : List Ak} (h : Obj N B G X Gd C) (hC : C.length ≤ 100) (hl : SLdPost w ⟨(putB X Gd).toArray⟩ e w') : ∃ (q bn bb bg : Nat) (N' : Nds) (B' : Bhs), e = .returned (.tuple #[.pointer (some ⟨q, 0, none⟩), .int .i64 0]) ∧ M (fun _ => False) w w' [sqI q bn bb bg N' B' Gd] ∧ Obj N' B' Gd X Gd C := by
  obtain ⟨L, G2, a, b, v, p, he, hR, hV, _, _, hz⟩ := hl
  have hx := h.xl
  have hg := h.gl
  obtain ⟨rfl, rfl, rfl, rfl⟩ := hR.uniq (rd_of_put h.ck h.each (by omega) (by omega))
  have hv := hV.uniq (fine_put h.alk.srt h.gon.srt h.ck)
  subst hv
  obtain ⟨q, bn, bb, bg, N', B', hp, m, hi, ha⟩ := hz rfl
  rw [hp] at he
  exact ⟨q, bn, bb, bg, N', B', he, m, h.again hi ha⟩
theorem psize {N : Nds} {B : Bhs} {G : List Wd} {X : List Dn} {Gd : List Wd} {C : List Ak} (h : Obj N B G X Gd C) (hC : C.length ≤ 100) : (⟨(putB X Gd).toArray⟩ : ByteArray).size ≤ 30000 :=
  put_size (fun d hd => (chk_ok (h.ck d hd)).1) h.each (Nat.le_trans h.xl hC) (Nat.le_trans h.gl hC)
theorem at_callW {P : Program} {f : Nat} {w : World} {Q : Ending → World → Prop} (args : Array Value) (h : Calls P f args w Q) : Calls P f args w Q := h
theorem put_t {w : World} {b bn bb bg : Nat} {N : Nds} {B : Bhs} {G : List Wd} {X : List Dn} {Gd : List Wd} {C : List Ak} (h : Obj N B G X Gd C) (hC : C.length ≤ 100) (hs : SqAt w b bn bb bg N B G) :
    Calls Try.prog 43 #[.pointer (some ⟨b, 0, none⟩)] w fun e w' => ∃ T : ByteArray, T = ⟨(putB X Gd).toArray⟩ ∧ e = .returned (.string T) ∧ STo w w' b bn bb bg B N B G :=
  (sput_any w b bn bb bg N B G hs h.inv (Nat.le_trans h.nl (by omega)) (by rw [← h.gon.len]; exact Nat.le_trans h.gl (by omega)) X Gd h.alk h.gon).mono fun e w' ⟨he, ht⟩ => ⟨_, rfl, he, ht⟩
set_option maxRecDepth 100000 in
set_option maxHeartbeats 16000000 in
theorem walk (s : Opn.Sl AQ) (ts : Opn.Sl Bool) (q : Int) (w : World) (hs : Opn.SlAt 67 layQ (fun _ x => factN x.2.1) w s) (ht : Opn.SlAt 1 (fun x : Bool => [Value.bool x]) (fun _ _ => True) w ts) (hq0 : 0 ≤ q) (hq1 : q < 256) :
    Calls Try.prog 10 #[.slice s.a s.len s.cap, .slice ts.a ts.len ts.cap, .int .u8 q] w fun e w' => e = .returned (.bool true) ∧ Below w.heap.size w w' := by
  obtain ⟨hA, hL, hlc, hcm⟩ := aks_of hs
  generalize s.els.map qk = L at hA hL
  generalize s.a = a at hA ⊢
  generalize s.len = n at hA hlc ⊢
  generalize s.cap = c at hlc hcm ⊢
  have HA : Hid (St.At 67 qe w a n L) := hA
  have HL : Hid (∀ x ∈ L, x.d.x.v.size ≤ maxLen) := hL
  have HLn : Hid (L.length = n) := hA.len
  unfold maxLen at hcm
  obtain ⟨htn, htc, htm, htl⟩ := ht
  obtain ⟨ta, tn, tc, tl⟩ := ts
  simp only at htn htc htm htl ⊢
  unfold maxLen at htm
  have HTn : Hid (tl.length = tn) := htn
  have HTl : Hid _ := htl
  have HMu : Hid (Calls Try.prog 11 #[.slice a n c] w (MuPost w n L)) := smuch_any w a n c L hA hL
  have HM : Hid (M (fun _ => False) w w []) := M.start _ w
  clear hs hA hL htn htl
  go_enter Try.func10, Try.ntmps10
  go_wp2_with (first | (go_at_call 11; refine HMu.out.mono ?_; rintro e w1 ⟨⟨p, rfl, k1, hp⟩⟩; have HM : Hid _ := HM.out.calm k1; have HP : Hid _ := hp; clear k1 hp; cases p) | (go_at_call 12; refine (awakeS _).mono ?_; rintro e w9 ⟨rfl, k9⟩; have HM : Hid _ := HM.out.calm k9; clear k9))
  rotate_left
  · go_ret
    exact ⟨rfl, Keep.below HM.out.keep (Nat.le_refl _) (fun _ h => h.elim)⟩
  obtain ⟨hn30, hv⟩ := HP.out (by trivial)
  have HV : Hid (∀ x ∈ L, x.d.x.v.size ≤ 100) := hv
  clear hv HP HMu
  have HK : Hid (Keep (fun _ => False) w w1) := HM.out.keep
  clear HM
  go_loopw [7] (fun s7 wr => ∃ (i : Nat), i ≤ n ∧ s7 = .int .i64 i ∧ Keep (fun _ => False) w wr ∧ (∀ (i' k : Nat) (x y : Ak), i' < i → k < i' → L[i']? = some x → L[k]? = some y → x.d.u = y.d.u → x.d = y.d)) (fun s7 _ => n - (intOf s7).toNat)
  case atStart => exact ⟨0, Nat.zero_le _, by go_num, HK.out, fun i' k x y hi => absurd hi (Nat.not_lt_zero _)⟩
  case round =>
    clear HK
    obtain ⟨wo, rfl⟩ : ∃ x, x = wr := ⟨wr, rfl⟩
    obtain ⟨i, hi, rfl, hK, hO⟩ := hrel
    have HK : Hid (Keep (fun _ => False) w wo) := hK
    have HO : Hid (∀ (i' k : Nat) (x y : Ak), i' < i → k < i' → L[i']? = some x → L[k]? = some y → x.d.u = y.d.u → x.d = y.d) := hO
    clear hK hO
    by_cases hlt : i < n
    · obtain ⟨x, hx⟩ : ∃ x, L[i]? = some x := ⟨_, List.getElem?_eq_getElem (by rw [HLn.out]; exact hlt)⟩
      have Hx : Hid (L[i]? = some x) := hx
      obtain ⟨b1, o1, rfl, hb1, hr1⟩ : ∃ b off, a = some ⟨b, off, none⟩ ∧ b < w.heap.size ∧ ∀ i x, L[i]? = some x → w.rangeAt b (off + i * 67) (qe x) := by rcases HA.out.lay with e | e; omega; exact e
      have Hb1 : Hid (b1 < w.heap.size) := hb1
      have Hr1 : Hid (∀ i x, L[i]? = some x → w.rangeAt b1 (o1 + i * 67) (qe x)) := hr1
      clear hx hr1 hb1
      go_wp2
      go_loopw [8] (fun s8 wr => ∃ (k : Nat), k ≤ i ∧ s8 = .int .i64 k ∧ Keep (fun _ => False) w wr ∧ (∀ (k' : Nat) (y : Ak), k' < k → L[k']? = some y → x.d.u = y.d.u → x.d = y.d)) (fun s8 _ => i - (intOf s8).toNat)
      case atStart => exact ⟨0, Nat.zero_le _, by go_num, HK.out, fun k' y hk => absurd hk (Nat.not_lt_zero _)⟩
      case round =>
        clear HK
        obtain ⟨k, hk, rfl, hK, hO2⟩ := hrel
        have HK : Hid (Keep (fun _ => False) w wr) := hK
        have HO2 : Hid (∀ (k' : Nat) (y : Ak), k' < k → L[k']? = some y → x.d.u = y.d.u → x.d = y.d) := hO2
        clear hK hO2
        by_cases hlt2 : k < i
        · obtain ⟨y, hy⟩ : ∃ y, L[k]? = some y := ⟨_, List.getElem?_eq_getElem (by rw [HLn.out]; omega)⟩
          have Hy : Hid (L[k]? = some y) := hy
          have hkn : k < n := by omega
          have HDx : Hid (wr.drew.rangeAt b1 (o1 + i * 67 + 1) (de x.d)) := rng_d (HK.out.drew.range Hb1.out (fun h => h) (Hr1.out i x Hx.out))
          have HDy : Hid (wr.drew.rangeAt b1 (o1 + k * 67 + 1) (de y.d)) := rng_d (HK.out.drew.range Hb1.out (fun h => h) (Hr1.out k y hy))
          have RU : Hid _ := rng_u HDx.out
          have RY : Hid _ := rng_u HDy.out
          have HU : Hid (x.d.u.length = 32) := x.d.hu
          have HYl : Hid (y.d.u.length = 32) := y.d.hu
          have HK : Hid (Keep (fun _ => False) w wr.drew) := HK.out.drew
          have hgd : ∀ (op : BinOp) (a b : Operand) (xs ys : Array Value) (w : World), Sem.run Try.prog (eqGuard op 37 a b (.agg xs) (.agg ys)) w = .ok () w := fun op a b xs ys w => run_eqGuard_agg w op 37 a b xs ys (by kernel_rfl)
          have hgi := guard_id
          clear hy
          by_cases hu : x.d.u = y.d.u
          · have hcmp : ∀ w, Sem.run Try.prog (binOp .eql 35 (idv x.d.u) (idv y.d.u)) w = .ok (.bool true) w := fun w => by rw [eql_id w x.d.u y.d.u x.d.hu y.d.hu, hu]; simp
            cases hE : eqD x.d y.d with
            | true =>
              have hne : ∀ w, Sem.run Try.prog (binOp .neq 37 (.agg (de x.d).toArray) (.agg (de y.d).toArray)) w = .ok (.bool false) w := fun w => by rw [neq_D, hE]; rfl
              have HD : Hid (x.d = y.d) := eqD_of hE
              clear hE hu
              go_wp2
              refine Txt.wp_region_text (fun _ => True) [0, 0, 0, 0, 0, 1, 0, 0, 0, 0, 0, 1, 0, 0, 0, 0, 0, 0, 1, 0, 0, 0, 0, 1, 0, 0] (by kernel_rfl) (by kernel_rfl) trivial ?_
              (repeat (first | (refine Txt.tl_pure (v := ?_) (by rfl) ?_ ?_; rotate_left; (focus (intro _; go_simp; try with_reducible rfl)); simp only [Act.put, List.setIfInBounds_toArray, List.set_cons_zero, List.set_cons_succ]) | (refine Txt.tl_rowN (n := 32) (ty := 35) (by rfl) (by rfl) (by rfl) RU.out (by kernel_rfl) (by rw [List.length_map]; exact HU.out) ?_; simp only [Act.put, List.setIfInBounds_toArray, List.set_cons_zero, List.set_cons_succ]) | (refine Txt.tl_rowN (n := 32) (ty := 35) (by rfl) (by rfl) (by rfl) RY.out (by kernel_rfl) (by rw [List.length_map]; exact HYl.out) ?_; simp only [Act.put, List.setIfInBounds_toArray, List.set_cons_zero, List.set_cons_succ]) | (refine Txt.tl_rowN (n := 66) (ty := 37) (by rfl) (by rfl) (by rfl) HDx.out (by kernel_rfl) (de_len _) ?_; simp only [Act.put, List.setIfInBounds_toArray, List.set_cons_zero, List.set_cons_succ]) | (refine Txt.tl_rowN (n := 66) (ty := 37) (by rfl) (by rfl) (by rfl) HDy.out (by kernel_rfl) (de_len _) ?_; simp only [Act.put, List.setIfInBounds_toArray, List.set_cons_zero, List.set_cons_succ]) | (refine Txt.tl_skip (by rfl) trivial ?_; simp only [Act.put, List.setIfInBounds_toArray, List.set_cons_zero, List.set_cons_succ])))
              refine Txt.tl_nil ?_
              go_wp2
              go_roundw
              case rel =>
                refine ⟨k + 1, by omega, by go_num, HK.out, fun k' z hk' hz he => ?_⟩
                rcases Nat.lt_or_ge k' k with h1 | h1
                · exact HO2.out k' z h1 hz he
                · obtain rfl : k' = k := by omega
                  rw [Hy.out] at hz
                  rw [← Option.some.inj hz]
                  exact HD.out
              case measure => simp [intOf]; omega
            | false =>
              have hne : ∀ w, Sem.run Try.prog (binOp .neq 37 (.agg (de x.d).toArray) (.agg (de y.d).toArray)) w = .ok (.bool true) w := fun w => by rw [neq_D, hE]; rfl
              clear hE hu
              go_wp2
              refine Txt.wp_region_text (fun _ => True) [0, 0, 0, 0, 0, 1, 0, 0, 0, 0, 0, 1, 0, 0, 0, 0, 0, 0, 1, 0, 0, 0, 0, 1, 0, 0] (by kernel_rfl) (by kernel_rfl) trivial ?_
              (repeat (first | (refine Txt.tl_pure (v := ?_) (by rfl) ?_ ?_; rotate_left; (focus (intro _; go_simp; try with_reducible rfl)); simp only [Act.put, List.setIfInBounds_toArray, List.set_cons_zero, List.set_cons_succ]) | (refine Txt.tl_rowN (n := 32) (ty := 35) (by rfl) (by rfl) (by rfl) RU.out (by kernel_rfl) (by rw [List.length_map]; exact HU.out) ?_; simp only [Act.put, List.setIfInBounds_toArray, List.set_cons_zero, List.set_cons_succ]) | (refine Txt.tl_rowN (n := 32) (ty := 35) (by rfl) (by rfl) (by rfl) RY.out (by kernel_rfl) (by rw [List.length_map]; exact HYl.out) ?_; simp only [Act.put, List.setIfInBounds_toArray, List.set_cons_zero, List.set_cons_succ]) | (refine Txt.tl_rowN (n := 66) (ty := 37) (by rfl) (by rfl) (by rfl) HDx.out (by kernel_rfl) (de_len _) ?_; simp only [Act.put, List.setIfInBounds_toArray, List.set_cons_zero, List.set_cons_succ]) | (refine Txt.tl_rowN (n := 66) (ty := 37) (by rfl) (by rfl) (by rfl) HDy.out (by kernel_rfl) (de_len _) ?_; simp only [Act.put, List.setIfInBounds_toArray, List.set_cons_zero, List.set_cons_succ]) | (refine Txt.tl_skip (by rfl) trivial ?_; simp only [Act.put, List.setIfInBounds_toArray, List.set_cons_zero, List.set_cons_succ])))
              refine Txt.tl_nil ?_
              go_wp2_with (first | (go_at_call 12; refine (awakeS _).mono ?_; rintro e w9 ⟨rfl, k9⟩; have HK : Hid _ := HK.out.trans k9; clear k9))
              go_ret
              exact ⟨rfl, Keep.below HK.out (Nat.le_refl _) (fun _ h => h.elim)⟩
          · have HNe : Hid (x.d.u ≠ y.d.u) := hu
            have hcmp : ∀ w, Sem.run Try.prog (binOp .eql 35 (idv x.d.u) (idv y.d.u)) w = .ok (.bool false) w := fun w => by rw [eql_id w x.d.u y.d.u x.d.hu y.d.hu]; simp [hu]
            clear hu
            go_wp2
            refine Txt.wp_region_text (fun _ => True) [0, 0, 0, 0, 0, 1, 0, 0, 0, 0, 0, 1, 0, 0, 0, 0, 0, 0, 1, 0, 0, 0, 0, 1, 0, 0] (by kernel_rfl) (by kernel_rfl) trivial ?_
            (repeat (first | (refine Txt.tl_pure (v := ?_) (by rfl) ?_ ?_; rotate_left; (focus (intro _; go_simp; try with_reducible rfl)); simp only [Act.put, List.setIfInBounds_toArray, List.set_cons_zero, List.set_cons_succ]) | (refine Txt.tl_rowN (n := 32) (ty := 35) (by rfl) (by rfl) (by rfl) RU.out (by kernel_rfl) (by rw [List.length_map]; exact HU.out) ?_; simp only [Act.put, List.setIfInBounds_toArray, List.set_cons_zero, List.set_cons_succ]) | (refine Txt.tl_rowN (n := 32) (ty := 35) (by rfl) (by rfl) (by rfl) RY.out (by kernel_rfl) (by rw [List.length_map]; exact HYl.out) ?_; simp only [Act.put, List.setIfInBounds_toArray, List.set_cons_zero, List.set_cons_succ]) | (refine Txt.tl_rowN (n := 66) (ty := 37) (by rfl) (by rfl) (by rfl) HDx.out (by kernel_rfl) (de_len _) ?_; simp only [Act.put, List.setIfInBounds_toArray, List.set_cons_zero, List.set_cons_succ]) | (refine Txt.tl_rowN (n := 66) (ty := 37) (by rfl) (by rfl) (by rfl) HDy.out (by kernel_rfl) (de_len _) ?_; simp only [Act.put, List.setIfInBounds_toArray, List.set_cons_zero, List.set_cons_succ]) | (refine Txt.tl_skip (by rfl) trivial ?_; simp only [Act.put, List.setIfInBounds_toArray, List.set_cons_zero, List.set_cons_succ])))
            refine Txt.tl_nil ?_
            go_wp2
            go_roundw
            case rel =>
              refine ⟨k + 1, by omega, by go_num, HK.out, fun k' z hk' hz he => ?_⟩
              rcases Nat.lt_or_ge k' k with h1 | h1
              · exact HO2.out k' z h1 hz he
              · obtain rfl : k' = k := by omega
                rw [Hy.out] at hz
                rw [← Option.some.inj hz] at he
                exact absurd he HNe.out
            case measure => simp [intOf]; omega
        · obtain rfl : i = k := by omega
          go_wp2
          go_roundw
          case rel =>
            refine ⟨i + 1, by omega, by go_num, HK.out, fun i' k' z y hi' hk' hz hy he => ?_⟩
            rcases Nat.lt_or_ge i' i with h1 | h1
            · exact HO.out i' k' z y h1 hk' hz hy he
            · obtain rfl : i' = i := by omega
              rw [Hx.out] at hz
              obtain rfl := Option.some.inj hz
              exact HO2.out k' y hk' hy he
          case measure => simp [intOf]; omega
    · obtain rfl : n = i := by omega
      have HOn : Hid (∀ x ∈ L, ∀ y ∈ L, x.d.u = y.d.u → x.d = y.d) := fun x hx y hy he => by
        obtain ⟨i1, h1⟩ := List.getElem?_of_mem hx
        obtain ⟨i2, h2⟩ := List.getElem?_of_mem hy
        have l1 := (List.getElem?_eq_some_iff.1 h1).1
        have l2 := (List.getElem?_eq_some_iff.1 h2).1
        rw [HLn.out] at l1 l2
        rcases Nat.lt_trichotomy i1 i2 with h | h | h
        · exact (HO.out i2 i1 y x l2 h h2 h1 he.symm).symm
        · rw [h, h2] at h1
          rw [← Option.some.inj h1]
        · exact HO.out i1 i2 x y l1 h h1 h2 he
      have HM : Hid (M (fun _ => False) w wo []) := (M.start _ w).calm HK.out
      clear HO HK hlt hi
      go_wp2_with (first | (go_at_call 13; first | (refine (snew _).mono ?_; rintro e w2 ⟨b, bn, bb, bg, rfl, m2⟩; have HM2 : Hid (M (fun _ => False) w w2 [sqI b bn bb bg [] [] []]) := M.app1 HM.out m2; clear m2 HM) | (refine (snew _).mono ?_; rintro e w3 ⟨b3, bn3, bb3, bg3, rfl, m3⟩; have HM3 : Hid (M (fun _ => False) w w3 [sqI b bn bb bg [] [] [], sqI b3 bn3 bb3 bg3 [] [] []]) := M.app1 HM2.out m3; clear m3 HM2)))
      have HM : Hid (M (fun _ => False) w w3 [sqI b bn bb bg [] [] [], sqI b3 bn3 bb3 bg3 [] [] []]) := HM3.out
      clear HM3
      go_loopw [11] (fun s11 wr => ∃ (k : Nat) (N : Nds) (B : Bhs) (G : List Wd) (X : List Dn) (Gd : List Wd), k ≤ n ∧ s11 = .int .i64 k ∧ M (fun _ => False) w wr [sqI b bn bb bg N B G, sqI b3 bn3 bb3 bg3 [] [] []] ∧ Obj N B G X Gd (L.take k)) (fun s11 _ => n - (intOf s11).toNat)
      case atStart => exact ⟨0, [], [], [], [], [], Nat.zero_le _, by go_num, HM.out, Obj.nil⟩
      case round =>
        clear HM
        obtain ⟨k, N, B, G, X, Gd, hk, rfl, hM, hOb⟩ := hrel
        have HM : Hid (M (fun _ => False) w wr [sqI b bn bb bg N B G, sqI b3 bn3 bb3 bg3 [] [] []]) := hM
        have HOb : Hid (Obj N B G X Gd (L.take k)) := hOb
        have HNl : Hid (N.length ≤ 1000) := Nat.le_trans hOb.nl (Nat.le_trans (List.length_take_le _ _) (by omega))
        clear hM hOb
        by_cases hlt : k < n
        · obtain ⟨x, hx⟩ : ∃ x, L[k]? = some x := ⟨_, List.getElem?_eq_getElem (by rw [HLn.out]; exact hlt)⟩
          obtain ⟨b1, o1, rfl, hb1, hr1⟩ : ∃ b off, a = some ⟨b, off, none⟩ ∧ b < w.heap.size ∧ ∀ i x, L[i]? = some x → w.rangeAt b (off + i * 67) (qe x) := by rcases HA.out.lay with e | e; omega; exact e
          have R1 : Hid (wr.rangeAt b1 (o1 + k * 67) (qe x)) := HM.out.keep.range hb1 (fun h => h) (hr1 k x hx)
          have HQl : Hid ((qe x).length = 67) := qe_len x
          have HVx : Hid (x.d.x.v.size ≤ maxLen) := HL.out x (List.mem_of_getElem? hx)
          have HTk : Hid (L.take (k + 1) = L.take k ++ [x]) := by show _ = _; rw [List.take_add_one, hx]; rfl
          have HOx : Hid (∀ y ∈ L.take k, x.d.u = y.d.u → x.d = y.d) := fun y hy => HOn.out x (List.mem_of_getElem? hx) y (List.mem_of_mem_take hy)
          clear hr1 hb1 hx
          go_wp2_with (first | ((with_reducible refine at_load 39 ?_); refine St.wl_load tyQ rfl rfl rfl R1.out HQl.out ?_; simp only [Act.put, List.setIfInBounds_toArray, List.set_cons_zero, List.set_cons_succ]) | (go_at_call 14; refine (play_any _ b bn bb bg N B G (HM.out.get 0 rfl) HOb.out.inv HNl.out x HVx.out).mono ?_; rintro e w4 ⟨rfl, B4, t4, i4⟩; have H4 : Hid _ := i4; have HM : Hid _ := M.sto HM.out 0 rfl t4; clear t4 i4))
          go_roundw
          case rel => exact ⟨k + 1, _, B4, _, _, _, by omega, by go_num, HM.out, by rw [HTk.out]; exact HOb.out.step x HOx.out H4.out⟩
          case measure => simp [intOf]; omega
        · obtain rfl : n = k := by omega
          have HTk : Hid (L.take n = L) := List.take_of_length_le (by rw [HLn.out]; exact Nat.le_refl _)
          rw [HTk.out] at HOb
          clear hlt hk
          go_wp2
          go_loopw [12, 10] (fun s12 s10 wr => ∃ (k : Nat) (C : List Ak) (q2 bn2 bb2 bg2 : Nat) (N2 : Nds) (B2 : Bhs) (G2 : List Wd) (X2 : List Dn) (Gd2 : List Wd), k ≤ n ∧ s12 = .int .i64 k ∧ s10 = .pointer (some ⟨q2, 0, none⟩) ∧ M (fun _ => False) w wr [sqI b bn bb bg N B G, sqI q2 bn2 bb2 bg2 N2 B2 G2] ∧ Obj N2 B2 G2 X2 Gd2 C ∧ C.length ≤ 2 * k ∧ (∀ y, y ∈ C ↔ ∃ j, n - k ≤ j ∧ L[j]? = some y)) (fun s12 _ _ => n - (intOf s12).toNat)
          case atStart => exact ⟨0, [], b3, bn3, bb3, bg3, [], [], [], [], [], Nat.zero_le _, by go_num, rfl, HM.out, Obj.nil, Nat.le_refl _, fun y => ⟨fun h => (by cases h), fun ⟨j, hj, h⟩ => (by have := (List.getElem?_eq_some_iff.1 h).1; rw [HLn.out] at this; omega)⟩⟩
          case round =>
            clear HM
            obtain ⟨k, C, q2, bn2, bb2, bg2, N2, B2, G2, X2, Gd2, hk, rfl, rfl, hM, hOb2, hCl, hCm⟩ := hrel
            have HM : Hid (M (fun _ => False) w wr [sqI b bn bb bg N B G, sqI q2 bn2 bb2 bg2 N2 B2 G2]) := hM
            have HO2 : Hid (Obj N2 B2 G2 X2 Gd2 C) := hOb2
            have HCm : Hid (∀ y, y ∈ C ↔ ∃ j, n - k ≤ j ∧ L[j]? = some y) := hCm
            have HCl : Hid (C.length ≤ 2 * k) := hCl
            have HN2 : Hid (N2.length ≤ 1000) := Nat.le_trans hOb2.nl (by omega)
            clear hM hOb2 hCm hCl
            by_cases hlt : k < n
            · obtain ⟨r, hr⟩ : ∃ r, n = k + 1 + r := ⟨n - (k + 1), by omega⟩
              have hrn : r < n := by omega
              have Hr : Hid (n = k + 1 + r) := hr
              have hw1 : IntKind.i64.wrap ((n : Int) - 1) = (n : Int) - 1 := by rw [IntKind.wrap_i64]; omega
              have hw2 : IntKind.i64.wrap ((n : Int) - 1 - (k : Int)) = (r : Int) := by rw [IntKind.wrap_i64]; omega
              obtain ⟨x, hx⟩ : ∃ x, L[r]? = some x := ⟨_, List.getElem?_eq_getElem (by rw [HLn.out]; exact hrn)⟩
              obtain ⟨b1, o1, rfl, hb1, hr1⟩ : ∃ b off, a = some ⟨b, off, none⟩ ∧ b < w.heap.size ∧ ∀ i x, L[i]? = some x → w.rangeAt b (off + i * 67) (qe x) := by rcases HA.out.lay with e | e; omega; exact e
              have R1 : Hid (wr.rangeAt b1 (o1 + r * 67) (qe x)) := HM.out.keep.range hb1 (fun h => h) (hr1 r x hx)
              have HQl : Hid ((qe x).length = 67) := qe_len x
              have HQs : Hid ((qe x).toArray.size = 67) := by show _ = _; rw [List.size_toArray]; exact qe_len x
              have HVx : Hid (x.d.x.v.size ≤ maxLen) := HL.out x (List.mem_of_getElem? hx)
              have HxL : Hid (x ∈ L) := List.mem_of_getElem? hx
              have HOc : Hid (∀ y ∈ C, x.d.u = y.d.u → x.d = y.d) := fun y hy => by
                obtain ⟨j, _, hj⟩ := (HCm.out y).1 hy
                exact HOn.out x (List.mem_of_getElem? hx) y (List.mem_of_getElem? hj)
              have HC1 : Hid (∀ y, (y ∈ C ∨ y = x) ↔ ∃ j, n - (k + 1) ≤ j ∧ L[j]? = some y) := fun y => by
                rw [HCm.out]
                constructor
                · rintro (⟨j, h1, h2⟩ | rfl)
                  · exact ⟨j, by omega, h2⟩
                  · exact ⟨r, by omega, hx⟩
                · rintro ⟨j, h1, h2⟩
                  rcases Nat.lt_or_ge j (n - k) with h3 | h3
                  · obtain rfl : j = r := by omega
                    rw [hx] at h2
                    exact .inr (Option.some.inj h2).symm
                  · exact .inl ⟨j, h3, h2⟩
              clear hr1 hb1 hx hr
              have HM : Hid (M (fun _ => False) w _ [sqI b bn bb bg N B G, sqI q2 bn2 bb2 bg2 N2 B2 G2, blk wr.heap.size (.cells (qe x).toArray 39)]) := HM.out.alloc (.cells (qe x).toArray 39) rfl
              have HC5 : Hid (∀ y, y ∈ C ++ [x] ↔ ∃ j, n - (k + 1) ≤ j ∧ L[j]? = some y) := fun y => by
                rw [← HC1.out, List.mem_append, List.mem_singleton]
              have HC6 : Hid (∀ y, y ∈ C ++ [x] ++ [x] ↔ ∃ j, n - (k + 1) ≤ j ∧ L[j]? = some y) := fun y => by
                rw [← HC1.out, List.mem_append, List.mem_append, List.mem_singleton]
                exact ⟨fun h => h.elim id .inr, .inl⟩
              have HL5 : Hid ((C ++ [x]).length ≤ 2 * (k + 1)) := by show _ ≤ _; rw [List.length_append]; have := HCl.out; simp; omega
              have HL6 : Hid ((C ++ [x] ++ [x]).length ≤ 2 * (k + 1)) := by show _ ≤ _; rw [List.length_append, List.length_append]; have := HCl.out; simp; omega
              have HOc5 : Hid (∀ y ∈ C ++ [x], x.d.u = y.d.u → x.d = y.d) := fun y hy => by
                obtain ⟨j, _, hj⟩ := (HC5.out y).1 hy
                exact HOn.out x HxL.out y (List.mem_of_getElem? hj)
              have hwq : IntKind.i64.wrap q = q := by rw [IntKind.wrap_i64]; omega
              have hk60 : 2 * (k + 1) ≤ 100 := by omega
              by_cases hkt : k < tn
              · obtain ⟨tv, htv⟩ : ∃ t, tl[k]? = some t := ⟨_, List.getElem?_eq_getElem (by rw [HTn.out]; exact hkt)⟩
                obtain ⟨g2, o2, rfl, hg2, hrt⟩ := HTl.out.resolve_left (by omega)
                have HT0 : Hid (w.rangeAt g2 (o2 + k) [Value.bool tv]) := by
                  have := (hrt k tv htv).1
                  show w.rangeAt g2 (o2 + k) [Value.bool tv]
                  simpa using this
                have Hg2 : Hid (g2 < w.heap.size) := hg2
                clear htv hrt hg2
                cases tv with
                | false =>
                  by_cases hkq : (k : Int) = q
                  · subst hkq
                    go_wp2_with (first | ((with_reducible refine at_load 39 ?_); first | (refine St.wl_load tyQ rfl rfl rfl (HM.out.range 2 rfl) HQl.out ?_; simp only [Act.put, List.setIfInBounds_toArray, List.set_cons_zero, List.set_cons_succ]) | (refine St.wl_load tyQ rfl rfl rfl R1.out HQl.out ?_; simp only [Act.put, List.setIfInBounds_toArray, List.set_cons_zero, List.set_cons_succ])) | ((with_reducible refine at_alloc 39 ?_); refine St.wl_alloc tyQ rfl rfl (by (try simp only [World.size_alloc]); rfl) ?_; simp only [Act.put, List.setIfInBounds_toArray, List.set_cons_zero, List.set_cons_succ]) | ((with_reducible refine at_store 39 ?_); refine St.wl_storeN (W := wr) tyQ rfl rfl rfl rfl rfl (by (try simp only [World.size_alloc])) (show _ = Value.agg (qe x).toArray from rfl) HQs.out rfl (encQ.all x) ?_) | (go_at_call 14; first | (refine (play_any _ q2 bn2 bb2 bg2 N2 B2 G2 (HM.out.get 1 rfl) HO2.out.inv HN2.out x HVx.out).mono ?_; rintro e w5 ⟨rfl, B5, t5, i5⟩; have HO5 : Hid (Obj (stN N2 x) B5 (stA G2 x) (stX X2 x) (stG Gd2 x) (C ++ [x])) := HO2.out.step x HOc.out i5; have HM : Hid (M (fun _ => False) w w5 [sqI b bn bb bg N B G, sqI q2 bn2 bb2 bg2 (stN N2 x) B5 (stA G2 x), blk wr.heap.size (.cells (qe x).toArray 39)]) := M.sto HM.out 1 rfl t5; clear t5 i5; try (have cT := HM.out.keep.range Hg2.out (fun h => h) HT0.out 0 _ rfl; rw [Nat.add_zero] at cT)) | (refine (play_any _ q2 bn2 bb2 bg2 _ _ _ (HM.out.get 1 rfl) HO5.out.inv (Nat.le_trans HO5.out.nl (Nat.le_trans HL5.out (by omega))) x HVx.out).mono ?_; rintro e w6 ⟨rfl, B6, t6, i6⟩; have HO6 : Hid (Obj (stN (stN N2 x) x) B6 (stA (stA G2 x) x) (stX (stX X2 x) x) (stG (stG Gd2 x) x) (C ++ [x] ++ [x])) := HO5.out.step x HOc5.out i6; have HM : Hid (M (fun _ => False) w w6 [sqI b bn bb bg N B G, sqI q2 bn2 bb2 bg2 (stN (stN N2 x) x) B6 (stA (stA G2 x) x), blk wr.heap.size (.cells (qe x).toArray 39)]) := M.sto HM.out 1 rfl t6; clear t6 i6)) | (go_at_call 43; refine (put_t HO5.out (Nat.le_trans HL5.out hk60) (HM.out.get 1 rfl)).mono ?_; rintro e w7 ⟨T, hT, rfl, t7⟩; have HT7 : Hid _ := hT; have HM : Hid _ := M.sto HM.out 1 rfl t7; clear hT t7) | (go_at_call 46; refine (sload_any _ T (by rw [HT7.out]; exact psize HO5.out (Nat.le_trans HL5.out hk60))).mono ?_; intro e w8 h8; rw [HT7.out] at h8; obtain ⟨q7, bn7, bb7, bg7, N7, B7, e7, m7, h7⟩ := load_put HO5.out (Nat.le_trans HL5.out hk60) h8; subst e7; have HO7 : Hid _ := h7; have HM : Hid _ := M.app1 HM.out m7; clear h8 m7 h7))
                    go_roundw
                    case rel => exact ⟨k + 1, C ++ [x], q7, bn7, bb7, bg7, N7, B7, _, _, _, by omega, by go_num, rfl, HM.out.sub _ [0, 3] (by decide) rfl, HO7.out, HL5.out, HC5.out⟩
                    case measure => simp [intOf]; omega
                  · skip
                    go_wp2_with (first | ((with_reducible refine at_load 39 ?_); first | (refine St.wl_load tyQ rfl rfl rfl (HM.out.range 2 rfl) HQl.out ?_; simp only [Act.put, List.setIfInBounds_toArray, List.set_cons_zero, List.set_cons_succ]) | (refine St.wl_load tyQ rfl rfl rfl R1.out HQl.out ?_; simp only [Act.put, List.setIfInBounds_toArray, List.set_cons_zero, List.set_cons_succ])) | ((with_reducible refine at_alloc 39 ?_); refine St.wl_alloc tyQ rfl rfl (by (try simp only [World.size_alloc]); rfl) ?_; simp only [Act.put, List.setIfInBounds_toArray, List.set_cons_zero, List.set_cons_succ]) | ((with_reducible refine at_store 39 ?_); refine St.wl_storeN (W := wr) tyQ rfl rfl rfl rfl rfl (by (try simp only [World.size_alloc])) (show _ = Value.agg (qe x).toArray from rfl) HQs.out rfl (encQ.all x) ?_) | (go_at_call 14; first | (refine (play_any _ q2 bn2 bb2 bg2 N2 B2 G2 (HM.out.get 1 rfl) HO2.out.inv HN2.out x HVx.out).mono ?_; rintro e w5 ⟨rfl, B5, t5, i5⟩; have HO5 : Hid (Obj (stN N2 x) B5 (stA G2 x) (stX X2 x) (stG Gd2 x) (C ++ [x])) := HO2.out.step x HOc.out i5; have HM : Hid (M (fun _ => False) w w5 [sqI b bn bb bg N B G, sqI q2 bn2 bb2 bg2 (stN N2 x) B5 (stA G2 x), blk wr.heap.size (.cells (qe x).toArray 39)]) := M.sto HM.out 1 rfl t5; clear t5 i5; try (have cT := HM.out.keep.range Hg2.out (fun h => h) HT0.out 0 _ rfl; rw [Nat.add_zero] at cT)) | (refine (play_any _ q2 bn2 bb2 bg2 _ _ _ (HM.out.get 1 rfl) HO5.out.inv (Nat.le_trans HO5.out.nl (Nat.le_trans HL5.out (by omega))) x HVx.out).mono ?_; rintro e w6 ⟨rfl, B6, t6, i6⟩; have HO6 : Hid (Obj (stN (stN N2 x) x) B6 (stA (stA G2 x) x) (stX (stX X2 x) x) (stG (stG Gd2 x) x) (C ++ [x] ++ [x])) := HO5.out.step x HOc5.out i6; have HM : Hid (M (fun _ => False) w w6 [sqI b bn bb bg N B G, sqI q2 bn2 bb2 bg2 (stN (stN N2 x) x) B6 (stA (stA G2 x) x), blk wr.heap.size (.cells (qe x).toArray 39)]) := M.sto HM.out 1 rfl t6; clear t6 i6)) | (go_at_call 43; refine (put_t HO5.out (Nat.le_trans HL5.out hk60) (HM.out.get 1 rfl)).mono ?_; rintro e w7 ⟨T, hT, rfl, t7⟩; have HT7 : Hid _ := hT; have HM : Hid _ := M.sto HM.out 1 rfl t7; clear hT t7) | (go_at_call 46; refine (sload_any _ T (by rw [HT7.out]; exact psize HO5.out (Nat.le_trans HL5.out hk60))).mono ?_; intro e w8 h8; rw [HT7.out] at h8; obtain ⟨q7, bn7, bb7, bg7, N7, B7, e7, m7, h7⟩ := load_put HO5.out (Nat.le_trans HL5.out hk60) h8; subst e7; have HO7 : Hid _ := h7; have HM : Hid _ := M.app1 HM.out m7; clear h8 m7 h7))
                    go_roundw
                    case rel => exact ⟨k + 1, C ++ [x], q2, bn2, bb2, bg2, _, _, _, _, _, by omega, by go_num, rfl, HM.out.take 2, HO5.out, HL5.out, HC5.out⟩
                    case measure => simp [intOf]; omega
                | true =>
                  by_cases hkq : (k : Int) = q
                  · subst hkq
                    go_wp2_with (first | ((with_reducible refine at_load 39 ?_); first | (refine St.wl_load tyQ rfl rfl rfl (HM.out.range 2 rfl) HQl.out ?_; simp only [Act.put, List.setIfInBounds_toArray, List.set_cons_zero, List.set_cons_succ]) | (refine St.wl_load tyQ rfl rfl rfl R1.out HQl.out ?_; simp only [Act.put, List.setIfInBounds_toArray, List.set_cons_zero, List.set_cons_succ])) | ((with_reducible refine at_alloc 39 ?_); refine St.wl_alloc tyQ rfl rfl (by (try simp only [World.size_alloc]); rfl) ?_; simp only [Act.put, List.setIfInBounds_toArray, List.set_cons_zero, List.set_cons_succ]) | ((with_reducible refine at_store 39 ?_); refine St.wl_storeN (W := wr) tyQ rfl rfl rfl rfl rfl (by (try simp only [World.size_alloc])) (show _ = Value.agg (qe x).toArray from rfl) HQs.out rfl (encQ.all x) ?_) | (go_at_call 14; first | (refine (play_any _ q2 bn2 bb2 bg2 N2 B2 G2 (HM.out.get 1 rfl) HO2.out.inv HN2.out x HVx.out).mono ?_; rintro e w5 ⟨rfl, B5, t5, i5⟩; have HO5 : Hid (Obj (stN N2 x) B5 (stA G2 x) (stX X2 x) (stG Gd2 x) (C ++ [x])) := HO2.out.step x HOc.out i5; have HM : Hid (M (fun _ => False) w w5 [sqI b bn bb bg N B G, sqI q2 bn2 bb2 bg2 (stN N2 x) B5 (stA G2 x), blk wr.heap.size (.cells (qe x).toArray 39)]) := M.sto HM.out 1 rfl t5; clear t5 i5; try (have cT := HM.out.keep.range Hg2.out (fun h => h) HT0.out 0 _ rfl; rw [Nat.add_zero] at cT)) | (refine (play_any _ q2 bn2 bb2 bg2 _ _ _ (HM.out.get 1 rfl) HO5.out.inv (Nat.le_trans HO5.out.nl (Nat.le_trans HL5.out (by omega))) x HVx.out).mono ?_; rintro e w6 ⟨rfl, B6, t6, i6⟩; have HO6 : Hid (Obj (stN (stN N2 x) x) B6 (stA (stA G2 x) x) (stX (stX X2 x) x) (stG (stG Gd2 x) x) (C ++ [x] ++ [x])) := HO5.out.step x HOc5.out i6; have HM : Hid (M (fun _ => False) w w6 [sqI b bn bb bg N B G, sqI q2 bn2 bb2 bg2 (stN (stN N2 x) x) B6 (stA (stA G2 x) x), blk wr.heap.size (.cells (qe x).toArray 39)]) := M.sto HM.out 1 rfl t6; clear t6 i6)) | (go_at_call 43; refine (put_t HO6.out (Nat.le_trans HL6.out hk60) (HM.out.get 1 rfl)).mono ?_; rintro e w7 ⟨T, hT, rfl, t7⟩; have HT7 : Hid _ := hT; have HM : Hid _ := M.sto HM.out 1 rfl t7; clear hT t7) | (go_at_call 46; refine (sload_any _ T (by rw [HT7.out]; exact psize HO6.out (Nat.le_trans HL6.out hk60))).mono ?_; intro e w8 h8; rw [HT7.out] at h8; obtain ⟨q7, bn7, bb7, bg7, N7, B7, e7, m7, h7⟩ := load_put HO6.out (Nat.le_trans HL6.out hk60) h8; subst e7; have HO7 : Hid _ := h7; have HM : Hid _ := M.app1 HM.out m7; clear h8 m7 h7))
                    go_roundw
                    case rel => exact ⟨k + 1, C ++ [x] ++ [x], q7, bn7, bb7, bg7, N7, B7, _, _, _, by omega, by go_num, rfl, HM.out.sub _ [0, 3] (by decide) rfl, HO7.out, HL6.out, HC6.out⟩
                    case measure => simp [intOf]; omega
                  · skip
                    go_wp2_with (first | ((with_reducible refine at_load 39 ?_); first | (refine St.wl_load tyQ rfl rfl rfl (HM.out.range 2 rfl) HQl.out ?_; simp only [Act.put, List.setIfInBounds_toArray, List.set_cons_zero, List.set_cons_succ]) | (refine St.wl_load tyQ rfl rfl rfl R1.out HQl.out ?_; simp only [Act.put, List.setIfInBounds_toArray, List.set_cons_zero, List.set_cons_succ])) | ((with_reducible refine at_alloc 39 ?_); refine St.wl_alloc tyQ rfl rfl (by (try simp only [World.size_alloc]); rfl) ?_; simp only [Act.put, List.setIfInBounds_toArray, List.set_cons_zero, List.set_cons_succ]) | ((with_reducible refine at_store 39 ?_); refine St.wl_storeN (W := wr) tyQ rfl rfl rfl rfl rfl (by (try simp only [World.size_alloc])) (show _ = Value.agg (qe x).toArray from rfl) HQs.out rfl (encQ.all x) ?_) | (go_at_call 14; first | (refine (play_any _ q2 bn2 bb2 bg2 N2 B2 G2 (HM.out.get 1 rfl) HO2.out.inv HN2.out x HVx.out).mono ?_; rintro e w5 ⟨rfl, B5, t5, i5⟩; have HO5 : Hid (Obj (stN N2 x) B5 (stA G2 x) (stX X2 x) (stG Gd2 x) (C ++ [x])) := HO2.out.step x HOc.out i5; have HM : Hid (M (fun _ => False) w w5 [sqI b bn bb bg N B G, sqI q2 bn2 bb2 bg2 (stN N2 x) B5 (stA G2 x), blk wr.heap.size (.cells (qe x).toArray 39)]) := M.sto HM.out 1 rfl t5; clear t5 i5; try (have cT := HM.out.keep.range Hg2.out (fun h => h) HT0.out 0 _ rfl; rw [Nat.add_zero] at cT)) | (refine (play_any _ q2 bn2 bb2 bg2 _ _ _ (HM.out.get 1 rfl) HO5.out.inv (Nat.le_trans HO5.out.nl (Nat.le_trans HL5.out (by omega))) x HVx.out).mono ?_; rintro e w6 ⟨rfl, B6, t6, i6⟩; have HO6 : Hid (Obj (stN (stN N2 x) x) B6 (stA (stA G2 x) x) (stX (stX X2 x) x) (stG (stG Gd2 x) x) (C ++ [x] ++ [x])) := HO5.out.step x HOc5.out i6; have HM : Hid (M (fun _ => False) w w6 [sqI b bn bb bg N B G, sqI q2 bn2 bb2 bg2 (stN (stN N2 x) x) B6 (stA (stA G2 x) x), blk wr.heap.size (.cells (qe x).toArray 39)]) := M.sto HM.out 1 rfl t6; clear t6 i6)) | (go_at_call 43; refine (put_t HO6.out (Nat.le_trans HL6.out hk60) (HM.out.get 1 rfl)).mono ?_; rintro e w7 ⟨T, hT, rfl, t7⟩; have HT7 : Hid _ := hT; have HM : Hid _ := M.sto HM.out 1 rfl t7; clear hT t7) | (go_at_call 46; refine (sload_any _ T (by rw [HT7.out]; exact psize HO6.out (Nat.le_trans HL6.out hk60))).mono ?_; intro e w8 h8; rw [HT7.out] at h8; obtain ⟨q7, bn7, bb7, bg7, N7, B7, e7, m7, h7⟩ := load_put HO6.out (Nat.le_trans HL6.out hk60) h8; subst e7; have HO7 : Hid _ := h7; have HM : Hid _ := M.app1 HM.out m7; clear h8 m7 h7))
                    go_roundw
                    case rel => exact ⟨k + 1, C ++ [x] ++ [x], q2, bn2, bb2, bg2, _, _, _, _, _, by omega, by go_num, rfl, HM.out.take 2, HO6.out, HL6.out, HC6.out⟩
                    case measure => simp [intOf]; omega
              · by_cases hkq : (k : Int) = q
                · subst hkq
                  go_wp2_with (first | ((with_reducible refine at_load 39 ?_); first | (refine St.wl_load tyQ rfl rfl rfl (HM.out.range 2 rfl) HQl.out ?_; simp only [Act.put, List.setIfInBounds_toArray, List.set_cons_zero, List.set_cons_succ]) | (refine St.wl_load tyQ rfl rfl rfl R1.out HQl.out ?_; simp only [Act.put, List.setIfInBounds_toArray, List.set_cons_zero, List.set_cons_succ])) | ((with_reducible refine at_alloc 39 ?_); refine St.wl_alloc tyQ rfl rfl (by (try simp only [World.size_alloc]); rfl) ?_; simp only [Act.put, List.setIfInBounds_toArray, List.set_cons_zero, List.set_cons_succ]) | ((with_reducible refine at_store 39 ?_); refine St.wl_storeN (W := wr) tyQ rfl rfl rfl rfl rfl (by (try simp only [World.size_alloc])) (show _ = Value.agg (qe x).toArray from rfl) HQs.out rfl (encQ.all x) ?_) | (go_at_call 14; first | (refine (play_any _ q2 bn2 bb2 bg2 N2 B2 G2 (HM.out.get 1 rfl) HO2.out.inv HN2.out x HVx.out).mono ?_; rintro e w5 ⟨rfl, B5, t5, i5⟩; have HO5 : Hid (Obj (stN N2 x) B5 (stA G2 x) (stX X2 x) (stG Gd2 x) (C ++ [x])) := HO2.out.step x HOc.out i5; have HM : Hid (M (fun _ => False) w w5 [sqI b bn bb bg N B G, sqI q2 bn2 bb2 bg2 (stN N2 x) B5 (stA G2 x), blk wr.heap.size (.cells (qe x).toArray 39)]) := M.sto HM.out 1 rfl t5; clear t5 i5; try (have cT := HM.out.keep.range Hg2.out (fun h => h) HT0.out 0 _ rfl; rw [Nat.add_zero] at cT)) | (refine (play_any _ q2 bn2 bb2 bg2 _ _ _ (HM.out.get 1 rfl) HO5.out.inv (Nat.le_trans HO5.out.nl (Nat.le_trans HL5.out (by omega))) x HVx.out).mono ?_; rintro e w6 ⟨rfl, B6, t6, i6⟩; have HO6 : Hid (Obj (stN (stN N2 x) x) B6 (stA (stA G2 x) x) (stX (stX X2 x) x) (stG (stG Gd2 x) x) (C ++ [x] ++ [x])) := HO5.out.step x HOc5.out i6; have HM : Hid (M (fun _ => False) w w6 [sqI b bn bb bg N B G, sqI q2 bn2 bb2 bg2 (stN (stN N2 x) x) B6 (stA (stA G2 x) x), blk wr.heap.size (.cells (qe x).toArray 39)]) := M.sto HM.out 1 rfl t6; clear t6 i6)) | (go_at_call 43; refine (put_t HO5.out (Nat.le_trans HL5.out hk60) (HM.out.get 1 rfl)).mono ?_; rintro e w7 ⟨T, hT, rfl, t7⟩; have HT7 : Hid _ := hT; have HM : Hid _ := M.sto HM.out 1 rfl t7; clear hT t7) | (go_at_call 46; refine (sload_any _ T (by rw [HT7.out]; exact psize HO5.out (Nat.le_trans HL5.out hk60))).mono ?_; intro e w8 h8; rw [HT7.out] at h8; obtain ⟨q7, bn7, bb7, bg7, N7, B7, e7, m7, h7⟩ := load_put HO5.out (Nat.le_trans HL5.out hk60) h8; subst e7; have HO7 : Hid _ := h7; have HM : Hid _ := M.app1 HM.out m7; clear h8 m7 h7))
                  go_roundw
                  case rel => exact ⟨k + 1, C ++ [x], q7, bn7, bb7, bg7, N7, B7, _, _, _, by omega, by go_num, rfl, HM.out.sub _ [0, 3] (by decide) rfl, HO7.out, HL5.out, HC5.out⟩
                  case measure => simp [intOf]; omega
                · skip
                  go_wp2_with (first | ((with_reducible refine at_load 39 ?_); first | (refine St.wl_load tyQ rfl rfl rfl (HM.out.range 2 rfl) HQl.out ?_; simp only [Act.put, List.setIfInBounds_toArray, List.set_cons_zero, List.set_cons_succ]) | (refine St.wl_load tyQ rfl rfl rfl R1.out HQl.out ?_; simp only [Act.put, List.setIfInBounds_toArray, List.set_cons_zero, List.set_cons_succ])) | ((with_reducible refine at_alloc 39 ?_); refine St.wl_alloc tyQ rfl rfl (by (try simp only [World.size_alloc]); rfl) ?_; simp only [Act.put, List.setIfInBounds_toArray, List.set_cons_zero, List.set_cons_succ]) | ((with_reducible refine at_store 39 ?_); refine St.wl_storeN (W := wr) tyQ rfl rfl rfl rfl rfl (by (try simp only [World.size_alloc])) (show _ = Value.agg (qe x).toArray from rfl) HQs.out rfl (encQ.all x) ?_) | (go_at_call 14; first | (refine (play_any _ q2 bn2 bb2 bg2 N2 B2 G2 (HM.out.get 1 rfl) HO2.out.inv HN2.out x HVx.out).mono ?_; rintro e w5 ⟨rfl, B5, t5, i5⟩; have HO5 : Hid (Obj (stN N2 x) B5 (stA G2 x) (stX X2 x) (stG Gd2 x) (C ++ [x])) := HO2.out.step x HOc.out i5; have HM : Hid (M (fun _ => False) w w5 [sqI b bn bb bg N B G, sqI q2 bn2 bb2 bg2 (stN N2 x) B5 (stA G2 x), blk wr.heap.size (.cells (qe x).toArray 39)]) := M.sto HM.out 1 rfl t5; clear t5 i5; try (have cT := HM.out.keep.range Hg2.out (fun h => h) HT0.out 0 _ rfl; rw [Nat.add_zero] at cT)) | (refine (play_any _ q2 bn2 bb2 bg2 _ _ _ (HM.out.get 1 rfl) HO5.out.inv (Nat.le_trans HO5.out.nl (Nat.le_trans HL5.out (by omega))) x HVx.out).mono ?_; rintro e w6 ⟨rfl, B6, t6, i6⟩; have HO6 : Hid (Obj (stN (stN N2 x) x) B6 (stA (stA G2 x) x) (stX (stX X2 x) x) (stG (stG Gd2 x) x) (C ++ [x] ++ [x])) := HO5.out.step x HOc5.out i6; have HM : Hid (M (fun _ => False) w w6 [sqI b bn bb bg N B G, sqI q2 bn2 bb2 bg2 (stN (stN N2 x) x) B6 (stA (stA G2 x) x), blk wr.heap.size (.cells (qe x).toArray 39)]) := M.sto HM.out 1 rfl t6; clear t6 i6)) | (go_at_call 43; refine (put_t HO5.out (Nat.le_trans HL5.out hk60) (HM.out.get 1 rfl)).mono ?_; rintro e w7 ⟨T, hT, rfl, t7⟩; have HT7 : Hid _ := hT; have HM : Hid _ := M.sto HM.out 1 rfl t7; clear hT t7) | (go_at_call 46; refine (sload_any _ T (by rw [HT7.out]; exact psize HO5.out (Nat.le_trans HL5.out hk60))).mono ?_; intro e w8 h8; rw [HT7.out] at h8; obtain ⟨q7, bn7, bb7, bg7, N7, B7, e7, m7, h7⟩ := load_put HO5.out (Nat.le_trans HL5.out hk60) h8; subst e7; have HO7 : Hid _ := h7; have HM : Hid _ := M.app1 HM.out m7; clear h8 m7 h7))
                  go_roundw
                  case rel => exact ⟨k + 1, C ++ [x], q2, bn2, bb2, bg2, _, _, _, _, _, by omega, by go_num, rfl, HM.out.take 2, HO5.out, HL5.out, HC5.out⟩
                  case measure => simp [intOf]; omega
            · obtain rfl : n = k := by omega
              obtain ⟨rfl, rfl⟩ := HOb.out.sum.uniq HO2.out.sum (fun y => by
                rw [HCm.out, Nat.sub_self]
                exact ⟨fun h => by
                  obtain ⟨j, hj⟩ := List.getElem?_of_mem h
                  exact ⟨j, Nat.zero_le _, hj⟩, fun ⟨j, _, hj⟩ => List.mem_of_getElem? hj⟩)
              have HL60 : Hid (L.length ≤ 100) := by show _ ≤ _; rw [HLn.out]; omega
              have HC60 : Hid (C.length ≤ 100) := by show _ ≤ _; have := HCl.out; omega
              obtain ⟨T, hT⟩ : ∃ T : ByteArray, (⟨(putB X Gd).toArray⟩ : ByteArray) = T := ⟨_, rfl⟩
              obtain ⟨o, ho⟩ : ∃ o, ordr N B = o := ⟨_, rfl⟩
              have ho2 : ordr N2 B2 = o := by rw [← ordr_same HOb.out.inv HOb.out.alk HO2.out.inv HO2.out.alk, ho]
              obtain ⟨l, hl⟩ : ∃ l, lst N G o = l := ⟨_, rfl⟩
              have hl2 : lst N2 G2 o = l := by
                have := lst_same2 HOb.out.inv HOb.out.alk HO2.out.inv HO2.out.alk HOb.out.gon HO2.out.gon
                rw [ho, ho2] at this
                rw [← this, hl]
              have HPa : Hid (∀ w1, SqAt w1 b bn bb bg N B G → Calls Try.prog 43 #[.pointer (some ⟨b, 0, none⟩)] w1 fun e w' => e = .returned (.string T) ∧ STo w1 w' b bn bb bg B N B G) := fun w1 h1 => (put_t HOb.out HL60.out h1).mono fun e w' ⟨T', h2, h3, h4⟩ => ⟨by rw [h3, h2, hT], h4⟩
              have HPb : Hid (∀ w1, SqAt w1 q2 bn2 bb2 bg2 N2 B2 G2 → Calls Try.prog 43 #[.pointer (some ⟨q2, 0, none⟩)] w1 fun e w' => e = .returned (.string T) ∧ STo w1 w' q2 bn2 bb2 bg2 B2 N2 B2 G2) := fun w1 h1 => (put_t HO2.out HC60.out h1).mono fun e w' ⟨T', h2, h3, h4⟩ => ⟨by rw [h3, h2, hT], h4⟩
              have HLa : Hid (∀ w1, SqAt w1 b bn bb bg N B G → Calls Try.prog 40 #[.pointer (some ⟨b, 0, none⟩)] w1 (LstPost w1 b bn bb bg N B G l)) := fun w1 h1 => by
                have := slist_any w1 b bn bb bg N B G h1 (fun r => Nat.le_trans (HOb.out.inv.row_len r) HNl.out) N.length HOb.out.inv.dep (Nat.le_trans (HOb.out.inv.pre_len _) (by have := HNl.out; omega))
                rwa [show pre (rowsB B) (N.length + 1) Zi = o from ho, hl] at this
              have HLb : Hid (∀ w1, SqAt w1 q2 bn2 bb2 bg2 N2 B2 G2 → Calls Try.prog 40 #[.pointer (some ⟨q2, 0, none⟩)] w1 (LstPost w1 q2 bn2 bb2 bg2 N2 B2 G2 l)) := fun w1 h1 => by
                have := slist_any w1 q2 bn2 bb2 bg2 N2 B2 G2 h1 (fun r => Nat.le_trans (HO2.out.inv.row_len r) HN2.out) N2.length HO2.out.inv.dep (Nat.le_trans (HO2.out.inv.pre_len _) (by have := HN2.out; omega))
                rwa [show pre (rowsB B2) (N2.length + 1) Zi = o from ho2, hl2] at this
              have HOa : Hid (∀ w1, SqAt w1 b bn bb bg N B G → Calls Try.prog 16 #[.pointer (some ⟨b, 0, none⟩)] w1 (OrdPost w1 b bn bb bg N B G o)) := fun w1 h1 => by
                have := order_any w1 b bn bb bg N B G h1 (fun r => Nat.le_trans (HOb.out.inv.row_len r) HNl.out) N.length HOb.out.inv.dep (Nat.le_trans (HOb.out.inv.pre_len _) (by have := HNl.out; omega))
                rwa [show pre (rowsB B) (N.length + 1) Zi = o from ho] at this
              have HObb : Hid (∀ w1, SqAt w1 q2 bn2 bb2 bg2 N2 B2 G2 → Calls Try.prog 16 #[.pointer (some ⟨q2, 0, none⟩)] w1 (OrdPost w1 q2 bn2 bb2 bg2 N2 B2 G2 o)) := fun w1 h1 => by
                have := order_any w1 q2 bn2 bb2 bg2 N2 B2 G2 h1 (fun r => Nat.le_trans (HO2.out.inv.row_len r) HN2.out) N2.length HO2.out.inv.dep (Nat.le_trans (HO2.out.inv.pre_len _) (by have := HN2.out; omega))
                rwa [show pre (rowsB B2) (N2.length + 1) Zi = o from ho2] at this
              clear hT ho ho2 hl hl2
              go_wp2_with (first | (go_at_call 43; first | ((with_reducible refine at_callW #[.pointer (some ⟨b, 0, none⟩)] ?_); refine (HPa.out _ (HM.out.get 0 rfl)).mono ?_; rintro e w4 ⟨rfl, t4⟩; have HM : Hid (M (fun _ => False) w w4 [sqI b bn bb bg N B G, sqI q2 bn2 bb2 bg2 N2 B2 G2]) := M.sto HM.out 0 rfl t4; clear t4) | ((with_reducible refine at_callW #[.pointer (some ⟨q2, 0, none⟩)] ?_); refine (HPb.out _ (HM.out.get 1 rfl)).mono ?_; rintro e w5 ⟨rfl, t5⟩; have HM : Hid (M (fun _ => False) w w5 [sqI b bn bb bg N B G, sqI q2 bn2 bb2 bg2 N2 B2 G2]) := M.sto HM.out 1 rfl t5; clear t5)) | (go_at_call 40; first | ((with_reducible refine at_callW #[.pointer (some ⟨b, 0, none⟩)] ?_); refine (HLa.out _ (HM.out.get 0 rfl)).mono ?_; rintro e w6 ⟨v6, rfl, m6⟩; have HM : Hid (M (fun _ => False) w w6 [sqI b bn bb bg N B G, sqI q2 bn2 bb2 bg2 N2 B2 G2, rP v6 l]) := two HM.out 0 rfl m6; clear m6; obtain ⟨a6, c6, e6, _⟩ := (show St.Own 92 2 pe w6 v6 l from HM.out.get 2 rfl).any; subst e6) | ((with_reducible refine at_callW #[.pointer (some ⟨q2, 0, none⟩)] ?_); refine (HLb.out _ (HM.out.get 1 rfl)).mono ?_; rintro e w7 ⟨v7, rfl, m7⟩; have HM : Hid (M (fun _ => False) w w7 [sqI b bn bb bg N B G, sqI q2 bn2 bb2 bg2 N2 B2 G2, rP (.slice a6 l.length c6) l, rP v7 l]) := two HM.out 1 rfl m7; clear m7; obtain ⟨a7, c7, e7, _⟩ := (show St.Own 92 2 pe w7 v7 l from HM.out.get 3 rfl).any; subst e7)) | (go_at_call 31; refine (pairs_same _ a6 a7 l.length c6 c7 l (own_sl (HM.out.get 2 rfl)).2 (own_sl (HM.out.get 3 rfl)).2).mono ?_; rintro e w8 ⟨rfl, k8⟩; have HM : Hid (M (fun _ => False) w w8 [sqI b bn bb bg N B G, sqI q2 bn2 bb2 bg2 N2 B2 G2]) := (HM.out.calm k8).take 2; clear k8) | (go_at_call 16; first | ((with_reducible refine at_callW #[.pointer (some ⟨b, 0, none⟩)] ?_); refine (HOa.out _ (HM.out.get 0 rfl)).mono ?_; rintro e w9 ⟨v9, rfl, m9⟩; have HM : Hid (M (fun _ => False) w w9 [sqI b bn bb bg N B G, sqI q2 bn2 bb2 bg2 N2 B2 G2, ids v9 o]) := two HM.out 0 rfl m9; clear m9; obtain ⟨a9, c9, e9, _⟩ := (show Ids.Own w9 v9 o from HM.out.get 2 rfl).at; subst e9) | ((with_reducible refine at_callW #[.pointer (some ⟨q2, 0, none⟩)] ?_); refine (HObb.out _ (HM.out.get 1 rfl)).mono ?_; rintro e w10 ⟨v10, rfl, m10⟩; have HM : Hid (M (fun _ => False) w w10 [sqI b bn bb bg N B G, sqI q2 bn2 bb2 bg2 N2 B2 G2, ids (.slice a9 o.length c9) o, ids v10 o]) := two HM.out 1 rfl m10; clear m10; obtain ⟨a10, c10, e10, _⟩ := (show Ids.Own w10 v10 o from HM.out.get 3 rfl).at; subst e10)) | (go_at_call 29; refine (same_any _ a9 a10 o.length o.length c9 c10 o o (own_idat (HM.out.get 2 rfl)) (own_idat (HM.out.get 3 rfl))).mono ?_; rw [decide_eq_true rfl]; rintro e w11 ⟨rfl, k11⟩; have HM : Hid _ := HM.out.calm k11; clear k11) | (go_at_call 12; refine (awakeS _).mono ?_; rintro e w12 ⟨rfl, k12⟩; have HM : Hid _ := HM.out.calm k12; clear k12))
              go_ret
              exact ⟨rfl, Keep.below HM.out.keep (Nat.le_refl _) (fun _ h => h.elim)⟩
theorem rd_tb : Opn.Rd Try.prog 80 1 (fun x : Opn.Sl Bool => [x.val]) (Opn.SlAt 1 (fun x : Bool => [Value.bool x]) (fun _ _ => True)) (fun x => (x.els.map fun _ => 1).sum + 1) :=
  Opn.rd_slice Try.underlying80 (by kernel_rfl) (by omega) (Opn.rd_bool Try.underlying4 (by kernel_rfl))
set_option maxRecDepth 100000 in
theorem own : ownKnob Try.prog.godebug = none := by kernel_rfl
set_option maxRecDepth 100000 in
theorem laidOut : laidOutB Try.prog = true := by kernel_rfl
set_option maxRecDepth 100000 in
theorem contract (H : Type) (enc : TypeId × Value → H) (W : World) (base : Nat) (args : Array Value) (ds gs : List (DataW H)) (before : List MemPlace)
    (hval : ∀ (j : Nat) t v, Try.f10.params[j]? = some t → args[j]? = some v → Value.okWide Try.prog W .any base t v)
    (hW : DataW.Whole enc Try.prog Try.f10.params.toList Rows.seqOrderSpec.vars false W args.toList ds gs before) :
    Calls Try.prog 10 args W fun e W' => ∃ v, e = .returned v ∧ Rows.seqOrderSpec.post enc Try.prog Try.f10 false true false false W args v W' := by
  have hW' := hW
  obtain ⟨p, q, hA0, hV, rfl, hfz, hnd⟩ := hW
  have hA : DataW.TrodAll enc Try.prog W 0 (fun _ => true) true Try.f10.params.toList args.toList ds p := hA0
  rw [Try.params10] at hA hval
  obtain ⟨rfl, rfl⟩ := trodVars_none hV
  obtain ⟨v0, vs0, d0, ds0, p0, q0, hargs, rfl, rfl, h0, r0⟩ := trodAll_cons hA
  obtain ⟨v1, vs1, d1, ds1, p1, q1, rfl, rfl, rfl, h1, r1⟩ := trodAll_cons r0
  obtain ⟨v2, vs2, d2, ds2, p2, q2, rfl, rfl, rfl, h2, r2⟩ := trodAll_cons r1
  obtain ⟨rfl, rfl, rfl⟩ := trodAll_nil r2
  obtain rfl : args = #[v0, v1, v2] := by cases args; simp_all
  obtain ⟨s, rfl, hs, _⟩ := Opn.open_sl Try.underlying22 rdQl (hval 0 _ v0 rfl rfl) h0
  obtain ⟨t, rfl, ht, _⟩ := Opn.open_sl Try.underlying80 rd_tb (hval 1 _ v1 rfl rfl) h1
  obtain ⟨q, rfl, rfl, rfl, hq⟩ := open_int Try.underlying5 (hval 2 _ v2 rfl rfl) h2
  have hw : 0 ≤ q ∧ q < 256 := by
    simp [Lit.wf, IntKind.min, IntKind.max, IntKind.signed, IntKind.bits] at hq
    omega
  refine (walk s t q W hs ht hw.1 hw.2).mono fun e W' ⟨he, bel⟩ => ?_
  subst he
  exact ⟨_, rfl, Opn.law_post laidOut (by kernel_rfl) rfl Try.underlying4 rfl rfl hW' bel⟩
set_option maxRecDepth 100000 in
theorem lifted (os : Os) (started : os.Started) (H : Type) (enc : TypeId × Value → H) :
    ReturnsInHanded {} Try.checked os 10 .any (Rows.seqOrderSpec.pre6 enc Try.prog Try.f10 Rows.seqOrderRow.domain false) (Rows.seqOrderSpec.post enc Try.prog Try.f10 false true false false) := by
  refine returnsInHanded_of_change (C := Try.checked) own started (by kernel_rfl) Try.func10
    (ChangeSpec.witness6 (enc := enc) (C := Try.checked) false ⟨#[], #[.slice none 0 0, .slice none 0 0, .int .u8 0], []⟩ 8 (by kernel_rfl) (by kernel_rfl) (by kernel_rfl) (by kernel_rfl)) ?_
  intro W base args ds gs before hval0 hW hcnd _
  exact contract H enc W base args ds gs before hval0 hW
theorem over : Rows.seqOrderRow.holds Try.pinned (OpenSpec.ofChange Rows.seqOrderSpec) :=
  OpenClaim.holds_of_wide 10 Try.f10 rfl rfl rfl rfl rfl rfl rfl ⟨rfl, rfl, rfl, rfl, rfl⟩ rfl rfl rfl rfl rfl (by kernel_rfl) Try.func10 (by kernel_rfl)
    (of_decide_eq_true (by kernel_rfl)) (by unfold Func.isWrapper; first | (rw [if_pos (by decide +kernel)]; kernel_rfl) | (rw [if_neg (by decide +kernel)]; exact ⟨rfl, rfl⟩))
    (fun os started H enc _ => lifted os started H enc)
theorem proved : Rows.SeqOrderSaid := over
end SeqOrder
end Go.Proofs.Ytgpimeobkacniaa
