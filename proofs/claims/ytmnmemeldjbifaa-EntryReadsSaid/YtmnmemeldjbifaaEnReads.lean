/-
  'petrellaw14.EntryReads': any bytes are read as the document says, and any texts. For every input.
-/
import Derived.Test.YtmnmemeldjbifaaEnC
set_option linter.unusedVariables false
set_option linter.unusedSimpArgs false
namespace Go.Proofs.Ytmnmemeldjbifaa
open Go.RowKit
namespace EnReads
open Oct Ids En Go.ChangeShapes Go.WideShapes Go.ChangeAt
open Go.ChangeMaps (open_string shut_string)
open Mem (M blk byt rd xr rows)

set_option maxRecDepth 100000 in
set_option maxHeartbeats 1000000 in
theorem same_eq (w : World) (a1 a2 : Option Addr) (n c1 c2 : Nat) (els : List E4) (h1 : St.At 35 enc4 w a1 n els) (h2 : St.At 35 enc4 w a2 n els) (hs : ∀ x ∈ els, x.2.2.2.length = 32) :
    Calls Try.prog 31 #[.slice a1 n c1, .slice a2 n c2] w fun e w' => e = .returned (.bool true) ∧ Keep (fun _ => False) w w' := by
  have hm1 := h1.most
  unfold maxLen at hm1
  have H1 : Hid _ := h1
  have H2 : Hid _ := h2
  have Hsz : Hid _ := hs
  have hgd := guard_e
  clear h1 h2 hs
  go_enter Try.func31, Try.ntmps31
  go_wp2
  go_loopw [5] (fun i wr => ∃ k : Nat, k ≤ n ∧ i = .int .i64 k ∧ Keep (fun _ => False) w wr) (fun i _ => n - (intOf i).toNat)
  case atStart => exact ⟨0, Nat.zero_le _, rfl, Keep.refl _ _⟩
  case round =>
    obtain ⟨k, hk, rfl, hkp⟩ := hrel
    have HK : Hid _ := hkp
    clear hkp
    by_cases hlt : k < n
    · obtain ⟨x, hx⟩ : ∃ x, els[k]? = some x := ⟨_, List.getElem?_eq_getElem (by rw [H1.out.len]; omega)⟩
      obtain ⟨b1, o1, rfl, hb1, hr1⟩ : ∃ b off, a1 = some ⟨b, off, none⟩ ∧ b < w.heap.size ∧ ∀ i x, els[i]? = some x → w.rangeAt b (off + i * 35) (enc4 x) := by rcases H1.out.lay with e | e; omega; exact e
      obtain ⟨b2, o2, rfl, hb2, hr2⟩ : ∃ b off, a2 = some ⟨b, off, none⟩ ∧ b < w.heap.size ∧ ∀ i x, els[i]? = some x → w.rangeAt b (off + i * 35) (enc4 x) := by rcases H2.out.lay with e | e; omega; exact e
      have R1 : Hid _ := HK.out.range hb1 (fun h => h) (hr1 k x hx)
      have R2 : Hid _ := HK.out.range hb2 (fun h => h) (hr2 k x hx)
      have hxl := Hsz.out x (List.mem_of_getElem? hx)
      have hcmp : ∀ w, Sem.run Try.prog (binOp .neq 43 (.agg (enc4 x).toArray) (.agg (enc4 x).toArray)) w = .ok (.bool false) w := fun w => (neq_e w x.1 x.1 x.2.1 x.2.2.1 x.2.1 x.2.2.1 x.2.2.2 x.2.2.2 hxl hxl).trans (by rw [eqE_self]; rfl)
      have L1 : Hid ((enc4 x).length = 35) := ec_len _ _ _ _ hxl
      clear hr1 hr2 hx hxl
      generalize enc4 x = X at *
      go_wp2
      refine Txt.wp_region_text (fun _ => True) [0, 0, 0, 1, 0, 0, 0, 1, 0] (by kernel_rfl) (by kernel_rfl) trivial ?_
      repeat (first
        | (refine Txt.tl_pure (v := ?_) (by rfl) ?_ ?_; rotate_left; (focus (intro _; go_simp; try with_reducible rfl)); simp only [Act.put, List.setIfInBounds_toArray, List.set_cons_zero, List.set_cons_succ])
        | (refine Txt.tl_skip (by rfl) trivial ?_; simp only [Act.put, List.setIfInBounds_toArray, List.set_cons_zero, List.set_cons_succ])
        | (refine Txt.tl_load (v := ?_) (by rfl) (by rfl) (by rfl) (by kernel_rfl) ?_ ?_; rotate_left; (focus (first | assumption | (go_simp; done) | (go_simp; with_reducible rfl))); simp only [Act.put, List.setIfInBounds_toArray, List.set_cons_zero, List.set_cons_succ])
        | (refine Txt.tl_alloc (by rfl) ?_; go_simp; refine ⟨by (first | exact Txt.Le.alloc_drew _ _ | exact Txt.Le.alloc _ _), ?_⟩))
      refine Txt.tl_rowN (n := 35) (by rfl) (by rfl) (by rfl) R1.out (by kernel_rfl) L1.out ?_
      simp only [Act.put, List.setIfInBounds_toArray, List.set_cons_zero, List.set_cons_succ]
      repeat (first
        | (refine Txt.tl_pure (v := ?_) (by rfl) ?_ ?_; rotate_left; (focus (intro _; go_simp; try with_reducible rfl)); simp only [Act.put, List.setIfInBounds_toArray, List.set_cons_zero, List.set_cons_succ])
        | (refine Txt.tl_skip (by rfl) trivial ?_; simp only [Act.put, List.setIfInBounds_toArray, List.set_cons_zero, List.set_cons_succ])
        | (refine Txt.tl_load (v := ?_) (by rfl) (by rfl) (by rfl) (by kernel_rfl) ?_ ?_; rotate_left; (focus (first | assumption | (go_simp; done) | (go_simp; with_reducible rfl))); simp only [Act.put, List.setIfInBounds_toArray, List.set_cons_zero, List.set_cons_succ])
        | (refine Txt.tl_alloc (by rfl) ?_; go_simp; refine ⟨by (first | exact Txt.Le.alloc_drew _ _ | exact Txt.Le.alloc _ _), ?_⟩))
      refine Txt.tl_rowN (n := 35) (by rfl) (by rfl) (by rfl) R2.out (by kernel_rfl) L1.out ?_
      simp only [Act.put, List.setIfInBounds_toArray, List.set_cons_zero, List.set_cons_succ]
      repeat (first
        | (refine Txt.tl_pure (v := ?_) (by rfl) ?_ ?_; rotate_left; (focus (intro _; go_simp; try with_reducible rfl)); simp only [Act.put, List.setIfInBounds_toArray, List.set_cons_zero, List.set_cons_succ])
        | (refine Txt.tl_skip (by rfl) trivial ?_; simp only [Act.put, List.setIfInBounds_toArray, List.set_cons_zero, List.set_cons_succ])
        | (refine Txt.tl_load (v := ?_) (by rfl) (by rfl) (by rfl) (by kernel_rfl) ?_ ?_; rotate_left; (focus (first | assumption | (go_simp; done) | (go_simp; with_reducible rfl))); simp only [Act.put, List.setIfInBounds_toArray, List.set_cons_zero, List.set_cons_succ])
        | (refine Txt.tl_alloc (by rfl) ?_; go_simp; refine ⟨by (first | exact Txt.Le.alloc_drew _ _ | exact Txt.Le.alloc _ _), ?_⟩))
      refine Txt.tl_nil ?_
      go_wp2
      go_roundw
      case rel => exact ⟨k + 1, by omega, rfl, HK.out.drew⟩
      case measure => simp [intOf]; omega
    · obtain rfl : k = n := by omega
      go_wp2
      go_ret
      exact ⟨rfl, HK.out⟩
theorem allv_len : ∀ (l : List ByteArray), ∀ x ∈ (allv l).1, x.2.2.2.length = 32
  | [], x, h => by simp [allv] at h
  | s :: l, x, h => by
    unfold allv at h
    split at h
    · simp at h
    · rcases List.mem_cons.1 h with rfl | h
      · exact ofe_len s
      · exact allv_len l x h
set_option maxRecDepth 100000 in
set_option maxHeartbeats 4000000 in
theorem walk (s : ByteArray) (a : Option Addr) (k c : Nat) (l : List ByteArray) (w : World) (hs : s.size ≤ maxLen) (h : TAt w a k l) :
    Calls Try.prog 10 #[.string s, .slice a k c] w fun e w' => e = .returned (.bool true) ∧ Below w.heap.size w w' := by
  have hm := h.most
  have H : Hid _ := h
  have hkl := h.len
  have HL : Hid _ := hkl
  have HA : Hid (∀ w, _) := fun w => awake_true w
  have HoS : Hid (∀ w, _) := fun w => ofE_any w s hs
  have HrS : Hid (∀ w, _) := fun w => rofE_any w s hs
  have hl32 := ofe_len s
  obtain ⟨R, hR⟩ : ∃ R, ofe s = R := ⟨_, rfl⟩
  rw [hR] at HoS HrS hl32
  obtain ⟨e0, K, T, B, cc⟩ := R
  unfold ev at HoS HrS
  simp only at HoS HrS hl32
  have Hl : Hid _ := hl32
  have hgd := guard_e
  have hcm0 : ∀ w, Sem.run Try.prog (binOp .eql 43 (.agg (ec K T B cc).toArray) (.agg (ec K T B cc).toArray)) w = .ok (.bool true) w := fun w => by rw [eql_e w K K T B T B cc cc hl32 hl32, eqE_self]
  obtain ⟨V, hV⟩ : ∃ V, allv l = V := ⟨_, rfl⟩
  obtain ⟨els, n, f⟩ := V
  have HV : Hid _ := hV
  have hall := allv_len l
  rw [hV] at hall
  have Hall : Hid (∀ x ∈ els, x.2.2.2.length = 32) := hall
  unfold maxLen at hs hm
  clear h hkl hR hl32 hV hall
  by_cases hl : 5000 < s.size
  · go_enter Try.func10, Try.ntmps10
    go_wp2_with (first | (go_at_call 20; refine (HA.out _).mono ?_; rintro e w5 ⟨rfl, k1⟩; have K5 : Hid _ := k1; clear k1))
    go_ret
    exact ⟨rfl, Keep.below K5.out (Nat.le_refl _) (fun _ h => h.elim)⟩
  by_cases hl2 : 30 < k
  · go_enter Try.func10, Try.ntmps10
    go_wp2_with (first | (go_at_call 20; refine (HA.out _).mono ?_; rintro e w5 ⟨rfl, k1⟩; have K5 : Hid _ := k1; clear k1))
    go_ret
    exact ⟨rfl, Keep.below K5.out (Nat.le_refl _) (fun _ h => h.elim)⟩
  go_enter Try.func10, Try.ntmps10
  go_wp2
  go_loopw [5] (fun i wr => ∃ j : Nat, j ≤ k ∧ i = .int .i64 j ∧ Keep (fun _ => False) w wr) (fun i _ => k - (intOf i).toNat)
  case atStart => exact ⟨0, Nat.zero_le _, rfl, Keep.refl _ _⟩
  case round =>
    obtain ⟨j, hj, rfl, hkp⟩ := hrel
    have HK : Hid _ := hkp
    clear hkp
    by_cases hlt : j < k
    · obtain ⟨y, hy⟩ : ∃ y, l[j]? = some y := ⟨_, List.getElem?_eq_getElem (by rw [HL.out]; exact hlt)⟩
      obtain ⟨b, off, rfl, hb, hr⟩ : ∃ b off, a = some ⟨b, off, none⟩ ∧ b < w.heap.size ∧ ∀ i x, l[i]? = some x → w.cell? ⟨b, off + i, none⟩ = some (.string x) := by rcases H.out.lay with e | e; omega; exact e
      have g4 : wr.cell? ⟨b, off + j, none⟩ = some (.string y) := (HK.out.cell (p := ⟨b, off + j, none⟩) hb (fun h => h)).trans (hr j y hy)
      have hys := H.out.size y (List.mem_of_getElem? hy)
      unfold maxLen at hys
      clear hr hb hy
      by_cases hbig : 1000 < y.size
      · go_wp2_with (first | (go_at_call 20; refine (HA.out _).mono ?_; rintro e w5 ⟨rfl, k1⟩; have K5 : Hid _ := k1; clear k1))
        go_ret
        exact ⟨rfl, Keep.below (HK.out.trans K5.out) (Nat.le_refl _) (fun _ h => h.elim)⟩
      · go_wp2
        go_roundw
        case rel => exact ⟨j + 1, by omega, rfl, HK.out⟩
        case measure => simp [intOf]; omega
    · obtain rfl : j = k := by omega
      have HM : Hid _ := (M.start (fun _ => False) w).calm HK.out
      have hj1 : j ≤ 1000 := by omega
      go_wp2_with (first | (go_at_call 25; refine (HoS.out _).mono ?_; rintro e w1 ⟨rfl, k1⟩; have HM : Hid _ := (HM.out.calm k1).alloc (.cells (ec K T B cc).toArray 43) rfl; clear k1) | (go_at_call 28; refine (HrS.out _).mono ?_; rintro e w2 ⟨rfl, k1⟩; have HM : Hid _ := (HM.out.calm k1).alloc (.cells (ec K T B cc).toArray 43) rfl; clear k1) | (refine St.wl_alloc stE rfl rfl (by (try simp only [World.size_alloc]); rfl) ?_; simp only [Act.put, List.setIfInBounds_toArray, List.set_cons_zero, List.set_cons_succ]) | (refine St.wl_storeN stE rfl rfl rfl rfl rfl (by (try simp only [World.size_alloc])) (show _ = Value.agg (ec K T B cc).toArray from rfl) (ec_sz Hl.out) (ec_sz rfl) (ec_one _ _ _ _) ?_) | (go_at_call 29; refine (all_any _ a j c l (H.out.calm HM.out.keep) hj1).mono ?_; rw [HV.out]; rintro e w3 ⟨v1, rfl, h1, k1⟩; have HM : Hid _ := HM.out.calm k1; obtain ⟨a1, c1, rfl, h2, _⟩ := h1.at; have HA1 : Hid _ := h2; clear h1 h2 k1) | (go_at_call 30; refine (rall_any _ a j c l (H.out.calm HM.out.keep) hj1).mono ?_; rw [HV.out]; rintro e w4 ⟨v2, rfl, h1, k1⟩; have HM : Hid _ := HM.out.calm k1; have HA1 : Hid _ := HA1.out.calm k1; obtain ⟨a2, c2, rfl, h2, _⟩ := h1.at; have HA2 : Hid _ := h2; clear h1 h2 k1) | (refine St.wl_load stE (by rfl) rfl rfl (HM.out.range 0 rfl) (ec_len _ _ _ _ Hl.out) ?_; simp only [Act.put, List.setIfInBounds_toArray, List.set_cons_zero, List.set_cons_succ]) | (refine St.wl_load stE (by rfl) rfl rfl (HM.out.range 1 rfl) (ec_len _ _ _ _ Hl.out) ?_; simp only [Act.put, List.setIfInBounds_toArray, List.set_cons_zero, List.set_cons_succ]) | (go_at_call 31; refine (same_eq _ a1 a2 _ c1 c2 els HA1.out HA2.out Hall.out).mono ?_; rintro e w5 ⟨rfl, k1⟩; have HM : Hid _ := HM.out.calm k1; clear k1) | (go_at_call 20; refine (HA.out _).mono ?_; rintro e w6 ⟨rfl, k1⟩; have HM : Hid _ := HM.out.calm k1; clear k1))
      go_ret
      exact ⟨rfl, Keep.below HM.out.keep (Nat.le_refl _) (fun _ h => h.elim)⟩

theorem rdT : Opn.Rd Try.prog 58 1 (fun x : Opn.Sl ByteArray => [x.val]) (Opn.SlAt 1 (fun x => [.string x]) fun _ x => x.size ≤ maxLen) (fun x => (x.els.map fun x => x.size + 1).sum + 1) :=
  Opn.rd_slice Try.underlying58 (by kernel_rfl) (by omega) Opn.rd_s
theorem tat_of {W : World} {s : Opn.Sl ByteArray} (h : Opn.SlAt 1 (fun x => [Value.string x]) (fun _ x => x.size ≤ maxLen) W s) : TAt W s.a s.len s.els := by
  obtain ⟨h1, h2, h3, h4⟩ := h
  refine ⟨h1, fun x hx => ?_, Nat.le_trans h2 h3, ?_⟩
  · rcases h4 with h4 | ⟨b, off, _, _, hel⟩
    · rw [h4] at h1
      rw [List.eq_nil_of_length_eq_zero h1] at hx
      cases hx
    · obtain ⟨i, hi⟩ := List.getElem?_of_mem hx
      exact (hel i x hi).2
  · refine h4.imp id fun ⟨b, off, ha, hb, hel⟩ => ⟨b, off, ha, hb, fun i x hi => ?_⟩
    have := (hel i x hi).1 0 (.string x) rfl
    simpa using this
set_option maxRecDepth 100000 in
theorem own : ownKnob Try.prog.godebug = none := by kernel_rfl
set_option maxRecDepth 100000 in
theorem laidOut : laidOutB Try.prog = true := by kernel_rfl
set_option maxRecDepth 100000 in
theorem contract (H : Type) (enc : TypeId × Value → H) (W : World) (base : Nat) (args : Array Value) (ds gs : List (DataW H)) (before : List MemPlace)
    (hval : ∀ (j : Nat) t v, Try.f10.params[j]? = some t → args[j]? = some v → Value.okWide Try.prog W .any base t v)
    (hW : DataW.Whole enc Try.prog Try.f10.params.toList Rows.entryReadsSpec.vars false W args.toList ds gs before) :
    Calls Try.prog 10 args W fun e W' => ∃ v, e = .returned v ∧ Rows.entryReadsSpec.post enc Try.prog Try.f10 false true false false W args v W' := by
  have hW' := hW
  obtain ⟨p, q, hA0, hV, rfl, hfz, hnd⟩ := hW
  have hA : DataW.TrodAll enc Try.prog W 0 (fun _ => true) true Try.f10.params.toList args.toList ds p := hA0
  rw [Try.params10] at hA hval
  obtain ⟨rfl, rfl⟩ := trodVars_none hV
  obtain ⟨v0, vs0, d0, ds0, p0, q0, hargs, rfl, rfl, h0, r0⟩ := trodAll_cons hA
  obtain ⟨v1, vs1, d1, ds1, p1, q1, rfl, rfl, rfl, h1, r1⟩ := trodAll_cons r0
  obtain ⟨rfl, rfl, rfl⟩ := trodAll_nil r1
  obtain rfl : args = #[v0, v1] := by cases args; simp_all
  obtain ⟨s, rfl, rfl, rfl, hs⟩ := open_string Try.underlying9 (hval 0 _ v0 rfl rfl) h0
  obtain ⟨x, rfl, f1, _⟩ := Opn.open_sl Try.underlying58 rdT (hval 1 _ v1 rfl rfl) h1
  refine (walk s x.a x.len x.cap x.els W hs (tat_of f1)).mono fun e W' ⟨he, bel⟩ => ?_
  subst he
  exact ⟨_, rfl, Opn.law_post laidOut (by kernel_rfl) rfl Try.underlying4 rfl rfl hW' bel⟩
set_option maxRecDepth 100000 in
theorem lifted (os : Os) (started : os.Started) (H : Type) (enc : TypeId × Value → H) :
    ReturnsInHanded {} Try.checked os 10 .any (Rows.entryReadsSpec.pre6 enc Try.prog Try.f10 Rows.entryReadsRow.domain false) (Rows.entryReadsSpec.post enc Try.prog Try.f10 false true false false) := by
  refine returnsInHanded_of_change (C := Try.checked) own started (by kernel_rfl) Try.func10
    (ChangeSpec.witness6 (enc := enc) (C := Try.checked) false ⟨#[], #[.string .empty, .slice none 0 0], []⟩ 8 (by kernel_rfl) (by kernel_rfl) (by kernel_rfl) (by kernel_rfl)) ?_
  intro W base args ds gs before hval0 hW hcnd _
  exact contract H enc W base args ds gs before hval0 hW
theorem over : Rows.entryReadsRow.holds Try.pinned (OpenSpec.ofChange Rows.entryReadsSpec) :=
  OpenClaim.holds_of_wide 10 Try.f10 rfl rfl rfl rfl rfl rfl rfl ⟨rfl, rfl, rfl, rfl, rfl⟩ rfl rfl rfl rfl rfl (by kernel_rfl) Try.func10 (by kernel_rfl)
    (of_decide_eq_true (by kernel_rfl)) (by unfold Func.isWrapper; first | (rw [if_pos (by decide +kernel)]; kernel_rfl) | (rw [if_neg (by decide +kernel)]; exact ⟨rfl, rfl⟩))
    (fun os started H enc _ => lifted os started H enc)
theorem proved : Rows.EntryReadsSaid := over
end EnReads
end Go.Proofs.Ytmnmemeldjbifaa
