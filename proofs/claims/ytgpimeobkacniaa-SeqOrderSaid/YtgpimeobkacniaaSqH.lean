/-
  The document's List; petrelref22.Pairs of two rows that are one.
-/
import Derived.Test.YtgpimeobkacniaaSqG
set_option linter.unusedVariables false
set_option linter.unusedSimpArgs false
namespace Go.Proofs.Ytgpimeobkacniaa
open Go.RowKit
namespace Sq
open Oct Ids Mp
open Mem (M It blk ids rows)
abbrev rP (v : Value) (L : List ByteArray) : It := rows 92 2 pe v L
/-- What the document's List comes to. -/
structure XLstPost (w : World) (X : List Dn) (N : Nds) (B : Bhs) (G : List Wd) (e : Ending) (w' : World) : Prop where
  ex : ∃ (O : List Dn) (v : Value), OrdD X N B O ∧ e = .returned v ∧ St.New 92 2 pe w w' v (lstD G O)
set_option maxRecDepth 100000 in
set_option maxHeartbeats 16000000 in
theorem qlist_any (w : World) (b : Nat) (lv gv : Value) (X : List Dn) (G : List Wd) (h : XsAt w b lv gv X G) (hX : X.length ≤ 1000) (hG : G.length ≤ 1000) (N : Nds) (B : Bhs) (hi : Inv N B) (ha : Alk X N) :
    Calls Try.prog 41 #[.pointer (some ⟨b, 0, none⟩)] w (XLstPost w X N B G) := by
  obtain ⟨ga, gc, e1, hgat, _⟩ := h.gone.at
  subst e1
  obtain ⟨g, hg⟩ : ∃ g, G.length = g := ⟨_, rfl⟩
  rw [hg] at h hgat hG
  have HXs : Hid (XsAt w b lv (.slice ga g gc) X G) := h
  have HGat : Hid (At w ga g G) := hgat
  have HOr : Hid (Calls Try.prog 39 #[.pointer (some ⟨b, 0, none⟩)] w (XOrdPost w X N B)) := xord_any w b lv _ X G h hX N B hi ha
  have HNl : Hid (N.length ≤ 1000) := by show _ ≤ _; rw [← ha.len]; exact hX
  have HI : Hid (Inv N B) := hi
  have HM : Hid (M (fun _ => False) w w []) := M.start _ w
  clear h hi ha hg hgat
  go_enter Try.func41, Try.ntmps41
  go_wp2_with (first | (go_at_call 39; refine HOr.out.mono ?_; rintro e w1 ⟨O, v, rfl, nw, hO⟩; have HO : Hid (OrdD X N B O) := hO; have HM : Hid (M (fun _ => False) w w1 [rD v O]) := M.newr HM.out nw; clear nw hO; obtain ⟨oa, oc, eo, _⟩ := (show St.Own 37 66 de w1 v O from HM.out.get 0 rfl).any; subst eo; obtain ⟨q, hq⟩ : ∃ q, O.length = q := ⟨_, rfl⟩; have Hq : Hid (O.length = q) := hq; rw [hq] at HM ⊢; clear hq))
  have hq1 : q ≤ 1000 := by rw [← Hq.out]; exact Nat.le_trans (HO.out.len HI.out) HNl.out
  have HM : Hid (M (fun _ => False) w w1 [rD (.slice oa q oc) O, rP (.slice none 0 0) []]) := HM.out.nilR 92 2 pe
  go_loopw [3, 5] (fun s3 s5 wr => ∃ (k : Nat) (v : Value), k ≤ q ∧ s3 = v ∧ s5 = .int .i64 k ∧ M (fun _ => False) w wr [rD (.slice oa q oc) O, rP v (lstD G (O.take k))]) (fun _ s5 _ => q - (intOf s5).toNat)
  case atStart => exact ⟨0, _, Nat.zero_le _, rfl, by go_num, HM.out⟩
  case round =>
    clear HM
    obtain ⟨k, v, hk, e1, rfl, hM⟩ := hrel
    replace e1 := e1.symm
    subst e1
    have HM : Hid (M (fun _ => False) w wr [rD (.slice oa q oc) O, rP v (lstD G (O.take k))]) := hM
    clear hM
    by_cases hlt : k < q
    · obtain ⟨d, hd⟩ : ∃ d, O[k]? = some d := ⟨_, List.getElem?_eq_getElem (by rw [Hq.out]; exact hlt)⟩
      have Hd : Hid (O[k]? = some d) := hd
      have HU : Hid (d.u.length = 32) := d.hu
      have HYl : Hid (d.u.length = 32) := d.hu
      obtain ⟨g0, o0, e0, _, _⟩ := (own_sl (show St.Own 37 66 de wr (.slice oa q oc) O from HM.out.get 0 rfl)).2.lay.resolve_left (by omega)
      subst e0
      have HLk : Hid ((lstD G (O.take k)).length ≤ k) := lstD_len k
      clear hd
      go_wp2
      have HM : Hid _ := HM.out.drew
      have c1 := (HXs.out.calm HM.out.keep).cells.2
      have RZ := (own_sl (show St.Own 37 66 de _ (.slice (some ⟨g0, o0, none⟩) q oc) O from HM.out.get 0 rfl)).2.lay.resolve_left (by omega) |> fun ⟨_, _, e, _, hr⟩ => (by cases e; exact hr k d Hd.out : World.rangeAt _ g0 (o0 + k * 66) (de d))
      have RU : Hid _ := rng_u RZ
      have RY : Hid _ := rng_u RZ
      clear RZ
      refine Txt.wp_region_text (fun _ => True) [0, 0, 0, 1, 0, 0, 0, 0, 1, 4, 0] (by kernel_rfl) (by kernel_rfl) trivial ?_
      (repeat (first | (refine Txt.tl_pure (v := ?_) (by rfl) ?_ ?_; rotate_left; (focus (intro _; go_simp; try with_reducible rfl)); simp only [Act.put, List.setIfInBounds_toArray, List.set_cons_zero, List.set_cons_succ]) | (refine Txt.tl_load (v := ?_) (by rfl) (by rfl) (by rfl) (by kernel_rfl) ?_ ?_; rotate_left; (focus assumption); simp only [Act.put, List.setIfInBounds_toArray, List.set_cons_zero, List.set_cons_succ]) | (refine Txt.tl_rowN (n := 32) (ty := 35) (by rfl) (by rfl) (by rfl) RY.out (by kernel_rfl) (by rw [List.length_map]; exact HYl.out) ?_; simp only [Act.put, List.setIfInBounds_toArray, List.set_cons_zero, List.set_cons_succ]) | (refine Txt.tl_rowN (n := 32) (ty := 35) (by rfl) (by rfl) (by rfl) RU.out (by kernel_rfl) (by rw [List.length_map]; exact HU.out) ?_; simp only [Act.put, List.setIfInBounds_toArray, List.set_cons_zero, List.set_cons_succ]) | (refine Txt.tl_skip (by rfl) trivial ?_; simp only [Act.put, List.setIfInBounds_toArray, List.set_cons_zero, List.set_cons_succ])))
      refine Txt.tl_call Try.func24 (by kernel_rfl) (by kernel_rfl) (by rfl) (by rfl) (by rfl) (xhas_any _ ga g gc G (HGat.out.calm HM.out.keep) (by omega) d.u d.hu) ?_
      rintro e w2 ⟨rfl, k2⟩
      have HM : Hid _ := HM.out.calm k2
      clear k2 c1
      refine ⟨_, rfl, trivial, ?_⟩
      simp only [Act.put, List.setIfInBounds_toArray, List.set_cons_zero, List.set_cons_succ]
      by_cases hg : d.u ∈ G
      · rw [decide_eq_true hg]
        have HE : Hid _ := lstD_in Hd.out hg
        (repeat (first | (refine Txt.tl_pure (v := ?_) (by rfl) ?_ ?_; rotate_left; (focus (intro _; go_simp; try with_reducible rfl)); simp only [Act.put, List.setIfInBounds_toArray, List.set_cons_zero, List.set_cons_succ]) | (refine Txt.tl_load (v := ?_) (by rfl) (by rfl) (by rfl) (by kernel_rfl) ?_ ?_; rotate_left; (focus assumption); simp only [Act.put, List.setIfInBounds_toArray, List.set_cons_zero, List.set_cons_succ]) | (refine Txt.tl_rowN (n := 32) (ty := 35) (by rfl) (by rfl) (by rfl) RY.out (by kernel_rfl) (by rw [List.length_map]; exact HYl.out) ?_; simp only [Act.put, List.setIfInBounds_toArray, List.set_cons_zero, List.set_cons_succ]) | (refine Txt.tl_rowN (n := 32) (ty := 35) (by rfl) (by rfl) (by rfl) RU.out (by kernel_rfl) (by rw [List.length_map]; exact HU.out) ?_; simp only [Act.put, List.setIfInBounds_toArray, List.set_cons_zero, List.set_cons_succ]) | (refine Txt.tl_skip (by rfl) trivial ?_; simp only [Act.put, List.setIfInBounds_toArray, List.set_cons_zero, List.set_cons_succ])))
        refine Txt.tl_nil ?_
        go_wp2
        go_roundw
        case rel => exact ⟨k + 1, v, by omega, rfl, by go_num, by rw [HE.out]; exact HM.out⟩
        case measure => simp [intOf]; omega
      · rw [decide_eq_false hg]
        have HE : Hid _ := lstD_out Hd.out hg
        (repeat (first | (refine Txt.tl_pure (v := ?_) (by rfl) ?_ ?_; rotate_left; (focus (intro _; go_simp; try with_reducible rfl)); simp only [Act.put, List.setIfInBounds_toArray, List.set_cons_zero, List.set_cons_succ]) | (refine Txt.tl_load (v := ?_) (by rfl) (by rfl) (by rfl) (by kernel_rfl) ?_ ?_; rotate_left; (focus assumption); simp only [Act.put, List.setIfInBounds_toArray, List.set_cons_zero, List.set_cons_succ]) | (refine Txt.tl_rowN (n := 32) (ty := 35) (by rfl) (by rfl) (by rfl) RY.out (by kernel_rfl) (by rw [List.length_map]; exact HYl.out) ?_; simp only [Act.put, List.setIfInBounds_toArray, List.set_cons_zero, List.set_cons_succ]) | (refine Txt.tl_rowN (n := 32) (ty := 35) (by rfl) (by rfl) (by rfl) RU.out (by kernel_rfl) (by rw [List.length_map]; exact HU.out) ?_; simp only [Act.put, List.setIfInBounds_toArray, List.set_cons_zero, List.set_cons_succ]) | (refine Txt.tl_skip (by rfl) trivial ?_; simp only [Act.put, List.setIfInBounds_toArray, List.set_cons_zero, List.set_cons_succ])))
        refine Txt.tl_nil ?_
        have RZ := (own_sl (show St.Own 37 66 de _ (.slice (some ⟨g0, o0, none⟩) q oc) O from HM.out.get 0 rfl)).2.lay.resolve_left (by omega) |> fun ⟨_, _, e, _, hr⟩ => (by cases e; exact hr k d Hd.out : World.rangeAt _ g0 (o0 + k * 66) (de d))
        have d65 := rng_v RZ
        clear RZ
        go_wp2_with (first | (refine wl_buildL rfl rfl [(1, .string d.x.v)] rfl (built_P d.x.v) ?_; simp only [Act.put, List.setIfInBounds_toArray, List.set_cons_zero, List.set_cons_succ]) | (refine St.wl_build slP (by decide) rfl rfl rfl rfl ?_; have HM : Hid _ := HM.out.alloc (.cells (pe d.x.v).toArray 92) rfl; simp only [Act.put, List.setIfInBounds_toArray, List.set_cons_zero, List.set_cons_succ]) | (refine St.wl_app1z encP slP (by decide) rfl rfl rfl (HM.out.get 1 rfl) rfl d.x.v rfl (HM.out.get 2 rfl) (by have := HLk.out; omega) ?_; intro v2 w4 h2 k2 g2; have HM : Hid _ := HM.out.appR 1 rfl h2 k2 g2; clear h2 k2 g2; simp only [Act.put, List.setIfInBounds_toArray, List.set_cons_zero, List.set_cons_succ]))
        go_roundw
        case rel => exact ⟨k + 1, v2, by omega, rfl, by go_num, by rw [HE.out]; exact HM.out.take 2⟩
        case measure => simp [intOf]; omega
    · obtain rfl : q = k := by omega
      have HE : Hid (O.take q = O) := List.take_of_length_le (by rw [Hq.out]; exact Nat.le_refl _)
      have HM := HM.out
      rw [HE.out] at HM
      have HM : Hid _ := HM
      go_wp2
      go_ret
      exact ⟨O, _, HO.out, rfl, HM.out.get 1 rfl, HM.out.keep, fun k hk => (HM.out.rng 1 _ rfl k hk).1.resolve_right (fun h => h)⟩
theorem equalIn_pe (w : World) (x : ByteArray) : (Op.equalIn 10000 92 (.agg (pe x).toArray) (.agg (pe x).toArray)).run Try.prog w = .ok true w := by
  have hS : Try.prog.underlying 92 = some (.struct (Try.prog.fieldsOf 92)) := by kernel_rfl
  have hp : Try.prog.stoodInHeld 92 = false := by kernel_rfl
  have u9 := Try.underlying9
  have a9 : ∀ w, (isAgg 9).run Try.prog w = .ok false w := fun w => by simp [isAgg, run_underlying u9]
  have k0 : ∀ w, (part 9 (pe x).toArray 0).run Try.prog w = .ok (.string ByteArray.empty) w := fun w => by simp [part, a9, pe]
  have k1 : ∀ w, (part 9 (pe x).toArray 1).run Try.prog w = .ok (.string x) w := fun w => by simp [part, a9, pe]
  rw [show (10000 : Nat) = 9999 + 1 from rfl, run_equalIn_agg w 9999 92 _ _ hS hp]
  have e0 : ∀ w, (Op.equalIn 9999 9 (.string ByteArray.empty) (.string ByteArray.empty)).run Try.prog w = .ok true w := fun w => (run_equalIn_string w 9998 _ ByteArray.empty ByteArray.empty u9).trans (by simp)
  have e1 : ∀ w, (Op.equalIn 9999 9 (.string x) (.string x)).run Try.prog w = .ok true w := fun w => (run_equalIn_string w 9998 _ x x u9).trans (by simp)
  simp only [Program.fieldsOf, Try.underlying92]
  generalize (pe x).toArray = X at *
  simp [Op.eqFields, k0, k1, e0, e1]
theorem neq_pe (w : World) (x : ByteArray) : Sem.run Try.prog (binOp .neq 92 (.agg (pe x).toArray) (.agg (pe x).toArray)) w = .ok (.bool false) w := by
  rw [run_neq_struct, equalIn_pe w x]
  rfl
set_option maxRecDepth 100000 in
set_option maxHeartbeats 4000000 in
theorem pairs_same (w : World) (a a2 : Option Addr) (n c c2 : Nat) (L : List ByteArray) (h1 : St.At 2 pe w a n L) (h2 : St.At 2 pe w a2 n L) :
    Calls Try.prog 31 #[.slice a n c, .slice a2 n c2] w fun e w' => e = .returned (.bool true) ∧ Keep (fun _ => False) w w' := by
  have H1 : Hid (St.At 2 pe w a n L) := h1
  have H2 : Hid (St.At 2 pe w a2 n L) := h2
  have HL : Hid (L.length = n) := h1.len
  have hnm := h1.most
  unfold maxLen at hnm
  clear h1 h2
  go_enter Try.func31, Try.ntmps31
  go_wp2
  go_loopw [5] (fun s5 wr => ∃ (k : Nat), k ≤ n ∧ s5 = .int .i64 k ∧ Keep (fun _ => False) w wr) (fun s5 _ => n - (intOf s5).toNat)
  case atStart => exact ⟨0, Nat.zero_le _, by go_num, Keep.refl _ _⟩
  case round =>
    obtain ⟨k, hk, rfl, hK⟩ := hrel
    have HK : Hid (Keep (fun _ => False) w wr) := hK
    clear hK
    by_cases hlt : k < n
    · obtain ⟨x, hx⟩ : ∃ x, L[k]? = some x := ⟨_, List.getElem?_eq_getElem (by rw [HL.out]; exact hlt)⟩
      obtain ⟨g1, o1, e1, hb1, hr1⟩ := H1.out.lay.resolve_left (by omega)
      subst e1
      obtain ⟨g2, o2, e2, hb2, hr2⟩ := H2.out.lay.resolve_left (by omega)
      subst e2
      have R1 : Hid (wr.drew.rangeAt g1 (o1 + k * 2) (pe x)) := (HK.out.drew).range hb1 (fun h => h) (hr1 k x hx)
      have R2 : Hid (wr.drew.rangeAt g2 (o2 + k * 2) (pe x)) := (HK.out.drew).range hb2 (fun h => h) (hr2 k x hx)
      have HK : Hid (Keep (fun _ => False) w wr.drew) := HK.out.drew
      have hcmp := fun w => neq_pe w x
      have hgd : ∀ (op : BinOp) (a b : Operand) (xs ys : Array Value) (w : World), Sem.run Try.prog (eqGuard op 92 a b (.agg xs) (.agg ys)) w = .ok () w := fun op a b xs ys w => run_eqGuard_agg w op 92 a b xs ys (by kernel_rfl)
      clear hr1 hr2 hx hb1 hb2
      go_wp2
      refine Txt.wp_region_text (fun _ => True) [0, 0, 0, 1, 0, 0, 0, 1, 0] (by kernel_rfl) (by kernel_rfl) trivial ?_
      (repeat (first | (refine Txt.tl_pure (v := ?_) (by rfl) ?_ ?_; rotate_left; (focus (intro _; go_simp; try with_reducible rfl)); simp only [Act.put, List.setIfInBounds_toArray, List.set_cons_zero, List.set_cons_succ]) | (refine Txt.tl_rowN (n := 2) (ty := 92) (by rfl) (by rfl) (by rfl) R1.out (by kernel_rfl) rfl ?_; simp only [Act.put, List.setIfInBounds_toArray, List.set_cons_zero, List.set_cons_succ]) | (refine Txt.tl_rowN (n := 2) (ty := 92) (by rfl) (by rfl) (by rfl) R2.out (by kernel_rfl) rfl ?_; simp only [Act.put, List.setIfInBounds_toArray, List.set_cons_zero, List.set_cons_succ])))
      refine Txt.tl_nil ?_
      go_wp2
      go_roundw
      case rel => exact ⟨k + 1, by omega, by go_num, HK.out⟩
      case measure => simp [intOf]; omega
    · obtain rfl : n = k := by omega
      go_wp2
      go_ret
      exact ⟨rfl, HK.out⟩
end Sq
end Go.Proofs.Ytgpimeobkacniaa
