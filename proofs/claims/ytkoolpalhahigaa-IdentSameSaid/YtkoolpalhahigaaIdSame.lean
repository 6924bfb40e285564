/-
  'petrellaw06.IdentSame': the order in which ids stand, and how often, plays no part in a set; it rises. For every input.
-/
import Derived.Test.YtkoolpalhahigaaIdOwn
set_option linter.unusedVariables false
set_option linter.unusedSimpArgs false
namespace Go.Proofs.Ytkoolpalhahigaa
open Go.RowKit Go.ChangeShapes Go.WideShapes Go.ChangeAt
namespace IdentSame
open Oct Ids Mem IdentSets IdentOwn
theorem swap_mem {els : List (List UInt8)} {A B : Nat} {ea eb : List UInt8} (hA : els[A]? = some ea) (hB : els[B]? = some eb) (y : List UInt8) : y ∈ ((els.set A eb).set B ea) ++ [ea] ↔ y ∈ els := by
  have ma := List.mem_of_getElem? hA
  have mb := List.mem_of_getElem? hB
  have lA := (List.getElem?_eq_some_iff.1 hA).1
  have lB := (List.getElem?_eq_some_iff.1 hB).1
  constructor
  · intro h
    rcases List.mem_append.1 h with h | h
    · rcases List.mem_or_eq_of_mem_set h with h | h
      · rcases List.mem_or_eq_of_mem_set h with h | h
        · exact h
        · rw [h]; exact mb
      · rw [h]; exact ma
    · rw [List.mem_singleton.1 h]; exact ma
  · intro h
    obtain ⟨i, hi⟩ := List.getElem?_of_mem h
    by_cases e1 : i = A
    · subst e1
      rw [hA] at hi
      rw [← Option.some.inj hi]
      simp
    · refine List.mem_append.2 (.inl ?_)
      by_cases e2 : i = B
      · subst e2
        rw [hB] at hi
        refine List.mem_of_getElem? (i := A) ?_
        rw [List.getElem?_set_ne e1, List.getElem?_set_self lA]
        exact hi
      · refine List.mem_of_getElem? (i := i) ?_
        rw [List.getElem?_set_ne (Ne.symm e2), List.getElem?_set_ne (Ne.symm e1)]
        exact hi
/-- Bytes, in memory. -/
structure BAt (w : World) (a : Option Addr) (n : Nat) (ts : List Int) : Prop where
  len : ts.length = n
  most : n ≤ maxLen
  lay : n = 0 ∨ ∃ b off, a = some ⟨b, off, none⟩ ∧ b < w.heap.size ∧ ∀ i t, ts[i]? = some t → w.cell? ⟨b, off + i, none⟩ = some (.int .u8 t) ∧ 0 ≤ t ∧ t < 256
theorem setL_rise {els : List (List UInt8)} {p : Nat} {x y : List UInt8} (hx : (IdL.setL els)[p]? = some x) (hy : (IdL.setL els)[p + 1]? = some y) : IdL.cmpL x y = -1 := by
  have := IdL.srt_next (IdL.setL_srt els) hx hy
  rcases IdL.cmpL_rng x y with e | e | e <;> omega
theorem range_alloc {w : World} {b i : Nat} {cs : List Value} (h : w.rangeAt b i cs) (hb : b < w.heap.size) (o : Obj) : (w.alloc o).rangeAt b i cs := ((Keep.refl (fun _ => False) w).alloc o).range hb (fun h => h) h
set_option maxRecDepth 100000 in
set_option maxHeartbeats 8000000 in
theorem walk (w : World) (a a2 : Option Addr) (n c n2 c2 : Nat) (l : List (List UInt8)) (ts : List Int) (h1 : At w a n l) (h2 : BAt w a2 n2 ts) :
    Calls Try.prog 3 #[.slice a n c, .slice a2 n2 c2] w fun e w' => e = .returned (.bool true) ∧ Below w.heap.size w w' := by
  have hn := h1.most
  have hn2 := h2.most
  unfold maxLen at hn hn2
  have A1 : Hid (At w a n l) := h1
  have A2 : Hid (BAt w a2 n2 ts) := h2
  have HM : Hid (M (fun _ => False) w w []) := M.start _ w
  have HN : Hid (l.length = n) := h1.len
  have HT : Hid (ts.length = n2) := h2.len
  clear h1 h2
  by_cases hgo : n ≤ 60
  · go_enter Try.func3, Try.ntmps3
    go_wp2_with (first | (refine wl_build0 rfl rfl ?_; intro h0; have H0 : Hid _ := h0; clear h0; simp only [Act.put, List.setIfInBounds_toArray, List.set_cons_zero, List.set_cons_succ]) | (refine wl_appR rfl rfl rfl H0.out rfl (A1.out.calm ((Keep.refl _ _).alloc _)) (show 0 + n ≤ 1000000 by omega) ?_; intro v1 w1 h1 h2 h3; have N1 : Hid (New w w1 v1 l) := new_app H0.out ((Keep.refl _ _).alloc _) h1 h2 h3; have HM : Hid (M (fun _ => False) w w1 [ids v1 l]) := addNew HM.out N1.out; clear h1 h2 h3; simp only [Act.put, List.setIfInBounds_toArray, List.set_cons_zero, List.set_cons_succ]))
    go_loopw [5, 6] (fun s5 s6 wr => ∃ (k : Nat) (els : List (List UInt8)), k ≤ n2 ∧ k ≤ 60 ∧ s6 = .int .i64 k ∧ els.length ≤ n + k ∧ (∀ y, y ∈ els ↔ y ∈ l) ∧ M (fun _ => False) w wr [ids s5 els]) (fun _ s6 _ => 60 - (intOf s6).toNat)
    case atStart => exact ⟨0, l, Nat.zero_le _, by omega, rfl, by rw [HN.out]; omega, fun _ => Iff.rfl, HM.out⟩
    case round =>
      obtain ⟨k, els, hk, hk2, rfl, hel, hmem, hM⟩ := hrel
      obtain ⟨am, nm, cm, e9, _, NM, _⟩ := Own.any' (hM.get 0 rfl)
      subst e9
      have HM : Hid _ := hM
      have HE : Hid (∀ y, y ∈ els ↔ y ∈ l) := hmem
      have hnm : nm ≤ 120 := by rw [NM.out]; omega
      clear hM hmem
      by_cases hgo2 : k < n2 ∧ 0 < nm ∧ k < 60
      · obtain ⟨hk3, hnm0, hk4⟩ := hgo2
        obtain ⟨g, rfl⟩ := own_some (HM.out.get 0 rfl) hnm0
        obtain ⟨t, ht⟩ : ∃ t, ts[k]? = some t := ⟨_, List.getElem?_eq_getElem (by rw [HT.out]; exact hk3)⟩
        obtain ⟨b2, o2, rfl, hb2, hr2⟩ : ∃ b off, a2 = some ⟨b, off, none⟩ ∧ b < w.heap.size ∧ ∀ i t, ts[i]? = some t → w.cell? ⟨b, off + i, none⟩ = some (.int .u8 t) ∧ 0 ≤ t ∧ t < 256 := by rcases A2.out.lay with e | e; omega; exact e
        obtain ⟨hcl, ht0, ht1⟩ := hr2 k t ht
        have hcell : wr.cell? ⟨b2, o2 + k, none⟩ = some (.int .u8 t) := (HM.out.keep.cell (p := ⟨b2, o2 + k, none⟩) hb2 (fun h => h)).trans hcl
        obtain ⟨A, hA⟩ : ∃ A : Nat, (A : Int) = t % (nm : Int) := ⟨(t % (nm : Int)).toNat, by have := Int.emod_nonneg t (show (nm : Int) ≠ 0 by omega); omega⟩
        obtain ⟨B, hB⟩ : ∃ B : Nat, (B : Int) = (k : Int) % (nm : Int) := ⟨((k : Int) % (nm : Int)).toNat, by have := Int.emod_nonneg (k : Int) (show (nm : Int) ≠ 0 by omega); omega⟩
        have hA1 : A < nm := by have := Int.emod_lt_of_pos t (show (0 : Int) < (nm : Int) by omega); omega
        have hB1 : B < nm := by have := Int.emod_lt_of_pos (k : Int) (show (0 : Int) < (nm : Int) by omega); omega
        have hA' : t % (nm : Int) = (A : Int) := hA.symm
        have hB' : (k : Int) % (nm : Int) = (B : Int) := hB.symm
        obtain ⟨ea, hea⟩ : ∃ x, els[A]? = some x := ⟨_, List.getElem?_eq_getElem (by rw [← NM.out]; exact hA1)⟩
        obtain ⟨eb, heb⟩ : ∃ x, els[B]? = some x := ⟨_, List.getElem?_eq_getElem (by rw [← NM.out]; exact hB1)⟩
        have O1 : Hid (Own wr (.slice (some ⟨g, 0, none⟩) nm cm) els) := HM.out.get 0 rfl
        have La : Hid (ea.length = 32) := O1.out.size ea (List.mem_of_getElem? hea)
        have Lb : Hid (eb.length = 32) := O1.out.size eb (List.mem_of_getElem? heb)
        have R1 : Hid (wr.rangeAt g (A * 32) (ea.map bv)) := O1.out.range hea
        have R2 : Hid (wr.rangeAt g (B * 32) (eb.map bv)) := O1.out.range heb
        have HG : Hid (g < wr.heap.size) := O1.out.lt (k := g) rfl
        have Hea : Hid _ := hea
        have Heb : Hid _ := heb
        have HE2 : Hid (∀ y, y ∈ ((els.set A eb).set B ea) ++ [ea] ↔ y ∈ l) := fun y => (swap_mem hea heb y).trans (HE.out y)
        clear hA hB hea heb hr2 ht hcl
        have Hl3 : Hid (((els.set A eb).set B ea).length ≤ 1000000) := by show _ ≤ _; rw [List.length_set, List.length_set]; omega
        have Hl4 : Hid ((((els.set A eb).set B ea) ++ [ea]).length ≤ n + (k + 1)) := by show _ ≤ _; rw [List.length_append, List.length_set, List.length_set]; simp; omega
        go_wp2_with (first | (refine wl_load rfl rfl rfl La.out R1.out ?_; simp only [Act.put, List.setIfInBounds_toArray, List.set_cons_zero, List.set_cons_succ]) | (refine St.wl_alloc tyIdP rfl rfl rfl ?_; simp only [Act.put, List.setIfInBounds_toArray, List.set_cons_zero, List.set_cons_succ]) | (refine St.wl_storeN tyIdP rfl rfl rfl rfl rfl rfl (cs := (ea.map bv).toArray) rfl (by simp; exact La.out) rfl (one_bv ea) ?_; have HM : Hid _ := HM.out.alloc (.cells (ea.map bv).toArray 26) rfl; have R3 : Hid ((wr.alloc (.cells (ea.map bv).toArray 26)).rangeAt g (B * 32) (eb.map bv)) := range_alloc R2.out HG.out _) | (refine wl_load rfl rfl rfl Lb.out R3.out ?_; simp only [Act.put, List.setIfInBounds_toArray, List.set_cons_zero, List.set_cons_succ]) | (refine wl_load rfl rfl rfl La.out (HM.out.range 1 rfl) ?_; simp only [Act.put, List.setIfInBounds_toArray, List.set_cons_zero, List.set_cons_succ]) | (refine wl_set (l := eb) (k := A) (g := g) (n := nm) (c := cm) (els := els) rfl rfl rfl (HM.out.get 0 rfl) rfl hA1 Lb.out rfl ?_; intro w3 h1 h2; have HM : Hid _ := setOwn HM.out 0 rfl h1 h2; clear h1 h2) | (refine wl_set (l := ea) (k := B) (g := g) (n := nm) (c := cm) (els := els.set A eb) rfl rfl rfl (HM.out.get 0 rfl) rfl hB1 La.out rfl ?_; intro w3 h1 h2; have HM : Hid _ := setOwn HM.out 0 rfl h1 h2; clear h1 h2) | (refine wl_build rfl rfl La.out rfl ?_; have HM : Hid _ := HM.out.alloc (.cells (ea.map bv).toArray 26) rfl; simp only [Act.put, List.setIfInBounds_toArray, List.set_cons_zero, List.set_cons_succ]) | (refine wl_app1 (v := .slice (some ⟨g, 0, none⟩) nm cm) (els := (els.set A eb).set B ea) rfl rfl rfl (HM.out.get 0 rfl) rfl La.out (heap_alloc_new _ _) Hl3.out ?_; intro v4 w4 h1 h2 h3; have HM : Hid _ := HM.out.appI 0 rfl h1 h2 h3; clear h1 h2 h3; simp only [Act.put, List.setIfInBounds_toArray, List.set_cons_zero, List.set_cons_succ]))
        go_roundw
        case rel => exact ⟨k + 1, _, by omega, by omega, rfl, Hl4.out, HE2.out, HM.out.take 1⟩
        case measure => simp [intOf]; omega
      · have HSet : Hid (IdL.setL els = IdL.setL l) := IdL.setL_congr HE.out
        have hcase : n2 ≤ k ∨ (k < n2 ∧ nm ≤ 0) ∨ (k < n2 ∧ 0 < nm ∧ 60 ≤ k) := by omega
        clear hgo2
        rcases hcase with hx | ⟨hx, hy⟩ | ⟨hx, hy, hz⟩
        all_goals
          go_wp2_with (go_at_call 13; refine (set_any _ am nm cm els (HM.out.get 0 rfl : Own _ _ _).atS (by omega)).mono ?_; rw [HSet.out]; rintro e w9 ⟨v9, rfl, h9⟩; obtain ⟨sa, sn, sc, e9, _, SN, _⟩ := h9.1.any'; subst e9; have HM : Hid (M (fun _ => False) w w9 [ids (.slice am nm cm) els, ids (.slice sa sn sc) (IdL.setL l)]) := addNew HM.out h9; clear h9)
          have hsn : sn ≤ 60 := by rw [SN.out]; have := IdL.setL_len l; rw [HN.out] at this; omega
          go_loopw [11] (fun s11 wq => ∃ k2 : Nat, 1 ≤ k2 ∧ k2 ≤ sn + 1 ∧ s11 = .int .i64 k2 ∧ M (fun _ => False) w wq [ids (.slice am nm cm) els, ids (.slice sa sn sc) (IdL.setL l)]) (fun s11 _ => sn + 1 - (intOf s11).toNat)
          case atStart => exact ⟨1, by omega, by omega, rfl, HM.out⟩
          case round =>
            obtain ⟨k2, q1, q2, rfl, hM⟩ := hrel
            have HM : Hid _ := hM
            clear hM
            by_cases hlt : k2 < sn
            · obtain ⟨p, hp⟩ : ∃ p, k2 = p + 1 := ⟨k2 - 1, by omega⟩
              have hw : IntKind.i64.wrap ((k2 : Int) - 1) = (p : Int) := by rw [IntWalk.i64_in _ (by omega)]; omega
              have hp2 : p < sn := by omega
              obtain ⟨g, rfl⟩ := own_some (HM.out.get 1 rfl) hlt
              obtain ⟨y, hy1⟩ : ∃ x, (IdL.setL l)[p]? = some x := ⟨_, List.getElem?_eq_getElem (by rw [← SN.out]; exact hp2)⟩
              obtain ⟨x, hx1⟩ : ∃ x, (IdL.setL l)[k2]? = some x := ⟨_, List.getElem?_eq_getElem (by rw [← SN.out]; exact hlt)⟩
              have OS : Hid (Own wr (.slice (some ⟨g, 0, none⟩) sn sc) (IdL.setL l)) := HM.out.get 1 rfl
              have R1 : Hid (wr.rangeAt g (k2 * 32) (x.map bv)) := OS.out.range hx1
              have R2 : Hid (wr.rangeAt g (p * 32) (y.map bv)) := OS.out.range hy1
              have Lx : Hid (x.length = 32) := OS.out.size x (List.mem_of_getElem? hx1)
              have Ly : Hid (y.length = 32) := OS.out.size y (List.mem_of_getElem? hy1)
              have L1 : Hid ((x.map bv).length = 32) := by show _ = _; rw [List.length_map, Lx.out]
              have L2 : Hid ((y.map bv).length = 32) := by show _ = _; rw [List.length_map, Ly.out]
              have hcm : IdL.cmpL y x = -1 := setL_rise hy1 (by rw [← hp]; exact hx1)
              have HC : Hid (∀ w, Calls Try.prog 14 #[idv y, idv x] w fun e w' => e = .returned (.int .i64 (-1)) ∧ Keep (fun _ => False) w w') := fun w => by
                have := compare_any w y x Ly.out Lx.out
                rw [hcm] at this
                exact this.mono fun e w' ⟨h1, h2⟩ => ⟨h1, h2.keep⟩
              clear hcm hx1 hy1 hp
              go_wp2_with fail
              refine Txt.wp_region_text (fun _ => True) [0, 0, 0, 0, 1, 0, 0, 0, 1, 4, 0] (by kernel_rfl) (by kernel_rfl) trivial ?_
              repeat (first
                | (refine Txt.tl_pure (v := ?_) (by rfl) ?_ ?_; rotate_left; (focus (intro _; go_simp; try with_reducible rfl)); simp only [Act.put, List.setIfInBounds_toArray, List.set_cons_zero, List.set_cons_succ])
                | (refine Txt.tl_skip (by rfl) trivial ?_; simp only [Act.put, List.setIfInBounds_toArray, List.set_cons_zero, List.set_cons_succ])
                | (refine Txt.tl_load (v := ?_) (by rfl) (by rfl) (by rfl) (by kernel_rfl) ?_ ?_; rotate_left; (focus (first | assumption | (go_simp; done) | (go_simp; with_reducible rfl))); simp only [Act.put, List.setIfInBounds_toArray, List.set_cons_zero, List.set_cons_succ])
                | (refine Txt.tl_alloc (by rfl) ?_; go_simp; refine ⟨by (first | exact Txt.Le.alloc_drew _ _ | exact Txt.Le.alloc _ _), ?_⟩))
              refine Txt.tl_loadRow (by rfl) (by rfl) (by rfl) R2.out (by rw [L2.out]; kernel_rfl) ?_
              simp only [Act.put, List.setIfInBounds_toArray, List.set_cons_zero, List.set_cons_succ]
              repeat (first
                | (refine Txt.tl_pure (v := ?_) (by rfl) ?_ ?_; rotate_left; (focus (intro _; go_simp; try with_reducible rfl)); simp only [Act.put, List.setIfInBounds_toArray, List.set_cons_zero, List.set_cons_succ])
                | (refine Txt.tl_skip (by rfl) trivial ?_; simp only [Act.put, List.setIfInBounds_toArray, List.set_cons_zero, List.set_cons_succ])
                | (refine Txt.tl_load (v := ?_) (by rfl) (by rfl) (by rfl) (by kernel_rfl) ?_ ?_; rotate_left; (focus (first | assumption | (go_simp; done) | (go_simp; with_reducible rfl))); simp only [Act.put, List.setIfInBounds_toArray, List.set_cons_zero, List.set_cons_succ])
                | (refine Txt.tl_alloc (by rfl) ?_; go_simp; refine ⟨by (first | exact Txt.Le.alloc_drew _ _ | exact Txt.Le.alloc _ _), ?_⟩))
              refine Txt.tl_loadRow (by rfl) (by rfl) (by rfl) R1.out (by rw [L1.out]; kernel_rfl) ?_
              simp only [Act.put, List.setIfInBounds_toArray, List.set_cons_zero, List.set_cons_succ]
              refine Txt.tl_call Try.func14 (by kernel_rfl) (by kernel_rfl) (by rfl) (by rfl) (by rfl) (HC.out _) ?_
              rintro e w2 ⟨rfl, h2⟩
              have HM : Hid _ := HM.out.drew.calm h2
              clear h2
              refine ⟨_, rfl, trivial, ?_⟩
              simp only [Act.put, List.setIfInBounds_toArray, List.set_cons_zero, List.set_cons_succ]
              (repeat (first | (refine Txt.tl_pure (v := ?_) (by rfl) ?_ ?_; rotate_left; (focus (intro _; go_simp; try with_reducible rfl)); simp only [Act.put, List.setIfInBounds_toArray, List.set_cons_zero, List.set_cons_succ]) | (refine Txt.tl_skip (by rfl) (by first | trivial | exact HS.out) ?_; simp only [Act.put, List.setIfInBounds_toArray, List.set_cons_zero, List.set_cons_succ]) | (refine Txt.tl_load (v := ?_) (by rfl) (by rfl) (by rfl) (by kernel_rfl) ?_ ?_; rotate_left; (focus (first | assumption | (go_simp; done) | (go_simp; with_reducible rfl))); simp only [Act.put, List.setIfInBounds_toArray, List.set_cons_zero, List.set_cons_succ]) | (refine Txt.tl_loadB (v := ?_) (by rfl) (by rfl) (by rfl) (by kernel_rfl) ?_ ?_; rotate_left; (focus assumption); simp only [Act.put, List.setIfInBounds_toArray, List.set_cons_zero, List.set_cons_succ])))
              refine Txt.tl_nil ?_
              go_wp2_with fail
              go_roundw
              case rel => exact ⟨k2 + 1, by omega, by omega, rfl, HM.out⟩
              case measure => simp [intOf]; omega
            · go_wp2_with (first | (go_at_call 13; refine (set_any _ a n c l (A1.out.calm HM.out.keep) (by omega)).mono ?_; rintro e w9 ⟨v9, rfl, h9⟩; obtain ⟨pa, pn, pc, e9, at9, _, _⟩ := h9.1.any'; subst e9; have PA : Hid (At w9 pa pn (IdL.setL l)) := at9; have HM : Hid _ := HM.out.calm h9.2.1; clear h9 at9) | (go_at_call 15; refine (same_eq _ pa sa pn sn pc sc _ _ PA.out (HM.out.get 1 rfl : Own _ _ _).atS rfl).mono ?_; rintro e w8 ⟨rfl, k9⟩; have HM : Hid _ := HM.out.calm k9; clear k9) | (go_at_call 16; refine (is_dec _ sa sn sc (IdL.setL l) (HM.out.get 1 rfl : Own _ _ _).atS (by omega)).mono ?_; rw [decide_eq_true (IdL.setL_self (IdL.setL_srt l)).symm]; rintro e w7 ⟨rfl, k9⟩; have HM : Hid _ := HM.out.calm k9; clear k9) | (go_at_call 12; refine (awake_true _).mono ?_; rintro e w5 ⟨rfl, k1⟩; have HM : Hid _ := HM.out.calm k1; clear k1))
              go_ret
              exact ⟨rfl, Keep.below HM.out.keep (Nat.le_refl _) (fun _ h => h.elim)⟩
  · go_enter Try.func3, Try.ntmps3
    go_wp2_with (go_at_call 12; refine (awake_true _).mono ?_; rintro e w5 ⟨rfl, k1⟩; have HM : Hid _ := HM.out.calm k1; clear k1)
    go_ret
    exact ⟨rfl, Keep.below HM.out.keep (Nat.le_refl _) (fun _ h => h.elim)⟩
theorem rd_u8 : Opn.Rd Try.prog 5 1 (fun x : Int => [Value.int .u8 x]) (fun _ x => (Lit.int .u8 x).wf = true) (fun _ => 1) := Opn.rd_int Try.underlying5 (by kernel_rfl)
theorem rd_u8s : Opn.Rd Try.prog 23 1 (fun x : Opn.Sl Int => [x.val]) (Opn.SlAt 1 (fun x => [Value.int .u8 x]) fun _ x => (Lit.int .u8 x).wf = true) (fun x => (x.els.map fun _ => 1).sum + 1) :=
  Opn.rd_slice Try.underlying23 (by kernel_rfl) (by omega) rd_u8
theorem bat_of {W : World} {s : Opn.Sl Int} (h : Opn.SlAt 1 (fun x => [Value.int .u8 x]) (fun _ x => (Lit.int .u8 x).wf = true) W s) : BAt W s.a s.len s.els := by
  obtain ⟨h1, h2, h3, h4⟩ := h
  refine ⟨h1, Nat.le_trans h2 h3, h4.imp id fun ⟨b, off, ha, hb, hel⟩ => ⟨b, off, ha, hb, fun i t hi => ?_⟩⟩
  obtain ⟨hr, hw⟩ := hel i t hi
  refine ⟨by have := hr 0 _ rfl; simpa using this, ?_⟩
  have h0 : IntKind.u8.min = 0 := by decide
  have h1 : IntKind.u8.max = 255 := by decide
  simp [Lit.wf, h0, h1] at hw
  omega
set_option maxRecDepth 100000 in
theorem open_u8s {H : Type} {enc : TypeId × Value → H} {W : World} {base : Nat} {v : Value} {d : DataW H} {p : List MemPlace}
    (hval : Value.okWide Try.prog W .any base 23 v) (h : DataW.Trod enc Try.prog W 0 (fun _ => true) true 23 v d p) : ∃ a n c ts, v = .slice a n c ∧ BAt W a n ts := by
  obtain ⟨x, e, h1, _⟩ := Opn.open_sl Try.underlying23 rd_u8s hval h
  exact ⟨_, _, _, _, e, bat_of h1⟩
set_option maxRecDepth 100000 in
theorem own : ownKnob Try.prog.godebug = none := by kernel_rfl
set_option maxRecDepth 100000 in
theorem laidOut : laidOutB Try.prog = true := by kernel_rfl
set_option maxRecDepth 100000 in
theorem contract (H : Type) (enc : TypeId × Value → H) (W : World) (base : Nat) (args : Array Value) (ds gs : List (DataW H)) (before : List MemPlace)
    (hval : ∀ (j : Nat) t v, Try.f3.params[j]? = some t → args[j]? = some v → Value.okWide Try.prog W .any base t v)
    (hW : DataW.Whole enc Try.prog Try.f3.params.toList Rows.identSameSpec.vars false W args.toList ds gs before) :
    Calls Try.prog 3 args W fun e W' => ∃ v, e = .returned v ∧ Rows.identSameSpec.post enc Try.prog Try.f3 false true false false W args v W' := by
  have hW' := hW
  obtain ⟨p, q, hA0, hV, rfl, hfz, hnd⟩ := hW
  have hA : DataW.TrodAll enc Try.prog W 0 (fun _ => true) true Try.f3.params.toList args.toList ds p := hA0
  rw [Try.params3] at hA hval
  obtain ⟨rfl, rfl⟩ := trodVars_none hV
  obtain ⟨v0, vs0, d0, ds0, p0, q0, hargs, rfl, rfl, h0, r0⟩ := trodAll_cons hA
  obtain ⟨v1, vs1, d1, ds1, p1, q1, rfl, rfl, rfl, h1, r1⟩ := trodAll_cons r0
  obtain ⟨rfl, rfl, rfl⟩ := trodAll_nil r1
  obtain rfl : args = #[v0, v1] := by cases args; simp_all
  obtain ⟨a, n, c, l, rfl, f0⟩ := Opn.open_idl (hval 0 _ v0 rfl rfl) h0
  obtain ⟨a2, n2, c2, ts, rfl, f1⟩ := open_u8s (hval 1 _ v1 rfl rfl) h1
  refine (walk W a a2 n c n2 c2 l ts f0 f1).mono fun e W' ⟨he, bel⟩ => ?_
  subst he
  exact ⟨_, rfl, Opn.law_post laidOut (by kernel_rfl) rfl Try.underlying4 rfl rfl hW' bel⟩
set_option maxRecDepth 100000 in
theorem lifted (os : Os) (started : os.Started) (H : Type) (enc : TypeId × Value → H) :
    ReturnsInHanded {} Try.checked os 3 .any (Rows.identSameSpec.pre6 enc Try.prog Try.f3 Rows.identSameRow.domain false) (Rows.identSameSpec.post enc Try.prog Try.f3 false true false false) := by
  refine returnsInHanded_of_change (C := Try.checked) own started (by kernel_rfl) Try.func3
    (ChangeSpec.witness6 (enc := enc) (C := Try.checked) false ⟨#[], #[.slice none 0 0, .slice none 0 0], []⟩ 8 (by kernel_rfl) (by kernel_rfl) (by kernel_rfl) (by kernel_rfl)) ?_
  intro W base args ds gs before hval0 hW hcnd _
  exact contract H enc W base args ds gs before hval0 hW
theorem over : Rows.identSameRow.holds Try.pinned (OpenSpec.ofChange Rows.identSameSpec) :=
  OpenClaim.holds_of_wide 3 Try.f3 rfl rfl rfl rfl rfl rfl rfl ⟨rfl, rfl, rfl, rfl, rfl⟩ rfl rfl rfl rfl rfl (by kernel_rfl) Try.func3 (by kernel_rfl)
    (of_decide_eq_true (by kernel_rfl)) (by unfold Func.isWrapper; first | (rw [if_pos (by decide +kernel)]; kernel_rfl) | (rw [if_neg (by decide +kernel)]; exact ⟨rfl, rfl⟩))
    (fun os started H enc _ => lifted os started H enc)
theorem proved : Rows.IdentSameSaid := over
end IdentSame
end Go.Proofs.Ytkoolpalhahigaa
