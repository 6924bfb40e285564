/-
  'petrellaw06.IdentOwn': lists that are handed in stay as they were, whatever becomes of what was told. For every input.
-/
import Derived.Test.YtkoolpalhahigaaIdSets
set_option linter.unusedVariables false
set_option linter.unusedSimpArgs false
namespace Go.Proofs.Ytkoolpalhahigaa
open Go.RowKit Go.ChangeShapes Go.WideShapes Go.ChangeAt
namespace IdentOwn
open Oct Ids Mem IdentSets
theorem addNew {F : Nat → Prop} {w0 w w' : World} {L : List It} (h : M F w0 w L) {v : Value} {els : List (List UInt8)} (N : New w w' v els) : M F w0 w' (L ++ [ids v els]) :=
  h.add (x := ids v els) N.2.1 N.1 (fun k hk => ⟨N.2.2 k hk, N.1.lt hk⟩)
theorem own_some {w : World} {a : Option Addr} {n c : Nat} {els : List (List UInt8)} (h : Own w (.slice a n c) els) {k : Nat} (hk : k < n) : ∃ g, a = some ⟨g, 0, none⟩ := by
  rcases h.form with ⟨e, _⟩ | ⟨g, c', e⟩
  · cases e; omega
  · cases e; exact ⟨g, rfl⟩
theorem setOwn {F : Nat → Prop} {w0 w w' : World} {L : List It} (h : M F w0 w L) (i : Nat) {g n c : Nat} {els els' : List (List UInt8)} (hi : L[i]? = some (ids (.slice (some ⟨g, 0, none⟩) n c) els)) (h1 : Own w' (.slice (some ⟨g, 0, none⟩) n c) els') (k : Keep (fun b => b = g) w w') : M F w0 w' (L.set i (ids (.slice (some ⟨g, 0, none⟩) n c) els')) :=
  h.appI i hi h1 (k.mono (fun b _ e => by simp [Value.ownBlock, e])) (.inl rfl)
/-- '[]api.Id{}' and a row appended. -/
theorem new_app {w w1 w2 : World} {v : Value} {l : List (List UInt8)} (h0 : Own w1 (.slice (some ⟨w.heap.size, 0, none⟩) 0 0) []) (k0 : Keep (fun _ => False) w w1) (h1 : Own w2 v ([] ++ l)) (h2 : Keep (fun k => (Value.slice (some ⟨w.heap.size, 0, none⟩) 0 0).ownBlock = some k) w1 w2) (h3 : v.ownBlock = (Value.slice (some ⟨w.heap.size, 0, none⟩) 0 0).ownBlock ∨ v.ownBlock = some w1.heap.size) : New w w2 v l :=
  New.trans (w1 := w1) (v := .slice (some ⟨w.heap.size, 0, none⟩) 0 0) (els := []) ⟨h0, k0, fun k hk => by have e : w.heap.size = k := Option.some.inj hk; omega⟩ h2 h1 h3
set_option maxRecDepth 100000 in
set_option maxHeartbeats 8000000 in
theorem walk (w : World) (a : Option Addr) (n c : Nat) (l : List (List UInt8)) (x : List UInt8) (h1 : At w a n l) (hx : x.length = 32) :
    Calls Try.prog 5 #[.slice a n c, idv x] w fun e w' => e = .returned (.bool true) ∧ Below w.heap.size w w' := by
  have hn := h1.most
  unfold maxLen at hn
  have A1 : Hid (At w a n l) := h1
  have Lx : Hid (x.length = 32) := hx
  have Rx : Hid ((x.map bv).length = 32) := by show _ = _; rw [List.length_map, hx]
  have HM : Hid (M (fun _ => False) w (w.alloc (.cells (x.map bv).toArray 26)) [ib w.heap.size x]) := (M.start _ w).alloc _ rfl
  have HN : Hid (l.length = n) := h1.len
  clear h1 hx
  by_cases hgo : n ≤ 60
  · go_enter Try.func5, Try.ntmps5
    go_wp2_with (first | (refine wl_build0 rfl rfl ?_; intro h0; have H0 : Hid _ := h0; clear h0; simp only [Act.put, List.setIfInBounds_toArray, List.set_cons_zero, List.set_cons_succ]) | (refine wl_appR rfl rfl rfl H0.out rfl (A1.out.calm (((Keep.refl _ _).alloc _).alloc _)) (show 0 + n ≤ 1000000 by omega) ?_; intro v1 w1 h1 h2 h3; have N1 : Hid (New (w.alloc (.cells (x.map bv).toArray 26)) w1 v1 l) := new_app H0.out ((Keep.refl _ _).alloc _) h1 h2 h3; obtain ⟨am, nm, cm, e9, _, NM, _⟩ := N1.out.1.any'; subst e9; have HM : Hid (M (fun _ => False) w w1 [ib w.heap.size x, ids (.slice am nm cm) l]) := addNew HM.out N1.out; clear h1 h2 h3; simp only [Act.put, List.setIfInBounds_toArray, List.set_cons_zero, List.set_cons_succ]))
    have hnm : nm ≤ 60 := by rw [NM.out, HN.out]; exact hgo
    refine (set_any _ am nm cm l (HM.out.get 1 rfl).atS (by omega)).mono ?_
    rintro e w9 ⟨v9, rfl, h9⟩
    obtain ⟨aa, an, ac, e9, _, aN, _⟩ := h9.1.any'
    subst e9
    have HM : Hid _ := addNew HM.out h9
    clear h9
    go_wp2_with (refine wl_load rfl rfl rfl Lx.out (HM.out.range 0 rfl) ?_; simp only [Act.put, List.setIfInBounds_toArray, List.set_cons_zero, List.set_cons_succ])
    refine (with_any _ am nm cm l (HM.out.get 1 rfl).atS (by omega) x Lx.out).mono ?_
    rintro e w9 ⟨v9, rfl, h9⟩
    obtain ⟨ba, bn, bc, e9, _, bN, _⟩ := h9.1.any'
    subst e9
    have HM : Hid _ := addNew HM.out h9
    clear h9
    go_wp2_with (refine wl_load rfl rfl rfl Lx.out (HM.out.range 0 rfl) ?_; simp only [Act.put, List.setIfInBounds_toArray, List.set_cons_zero, List.set_cons_succ])
    refine (without_any _ am nm cm l (HM.out.get 1 rfl).atS (by omega) x Lx.out).mono ?_
    rintro e w9 ⟨v9, rfl, h9⟩
    obtain ⟨ca, cn, cc, e9, _, cN, _⟩ := h9.1.any'
    subst e9
    have HM : Hid _ := addNew HM.out h9
    clear h9
    go_wp2_with (refine wl_load rfl rfl rfl Lx.out (HM.out.range 0 rfl) ?_; simp only [Act.put, List.setIfInBounds_toArray, List.set_cons_zero, List.set_cons_succ])
    refine (both_any _ am am nm cm nm cm l l (HM.out.get 1 rfl).atS (HM.out.get 1 rfl).atS (by omega)).mono ?_
    rintro e w9 ⟨v9, rfl, h9⟩
    obtain ⟨da, dn, dc, e9, _, dN, _⟩ := h9.1.any'
    subst e9
    have HM : Hid _ := addNew HM.out h9
    clear h9
    go_wp2_with (refine wl_load rfl rfl rfl Lx.out (HM.out.range 0 rfl) ?_; simp only [Act.put, List.setIfInBounds_toArray, List.set_cons_zero, List.set_cons_succ])
    have hbn : bn ≤ maxLen := (HM.out.get 3 rfl : Own _ _ _).atS.most
    have han : an ≤ maxLen := (HM.out.get 2 rfl : Own _ _ _).atS.most
    have hcn : cn ≤ maxLen := (HM.out.get 4 rfl : Own _ _ _).atS.most
    have hdn : dn ≤ maxLen := (HM.out.get 5 rfl : Own _ _ _).atS.most
    unfold maxLen at hbn han hcn hdn
    go_loopw [10] (fun s10 wr => ∃ (k : Nat) (EA EB EC ED : List (List UInt8)), k ≤ bn ∧ s10 = .int .i64 k ∧ M (fun _ => False) w wr [ib w.heap.size x, ids (.slice am nm cm) l, ids (.slice aa an ac) EA, ids (.slice ba bn bc) EB, ids (.slice ca cn cc) EC, ids (.slice da dn dc) ED]) (fun s10 _ => bn - (intOf s10).toNat)
    case atStart => exact ⟨0, _, _, _, _, Nat.zero_le _, rfl, HM.out⟩
    case round =>
      obtain ⟨k, EA, EB, EC, ED, hk, rfl, hM⟩ := hrel
      have HM : Hid _ := hM
      clear hM
      by_cases hkb : k < bn
      · obtain ⟨gb, rfl⟩ := own_some (HM.out.get 3 rfl) hkb
        by_cases hka : k < an
        · obtain ⟨ga, rfl⟩ := own_some (HM.out.get 2 rfl) hka
          by_cases hkc : k < cn
          · obtain ⟨gc, rfl⟩ := own_some (HM.out.get 4 rfl) hkc
            by_cases hkd : k < dn
            · obtain ⟨gd, rfl⟩ := own_some (HM.out.get 5 rfl) hkd
              go_wp2_with (first | (refine wl_buildW (parts := #[(0, Operand.const (.int .u8 9))]) (by rfl) rfl (cs := ((Ids.one 9).map bv).toArray) (by kernel_rfl) ?_; simp only [Act.put, List.setIfInBounds_toArray, List.set_cons_zero, List.set_cons_succ]) | (refine wl_buildW (parts := #[(0, Operand.const (.int .u8 8))]) (by rfl) rfl (cs := ((Ids.one 8).map bv).toArray) (by kernel_rfl) ?_; simp only [Act.put, List.setIfInBounds_toArray, List.set_cons_zero, List.set_cons_succ]) | (refine wl_buildW (parts := #[(0, Operand.const (.int .u8 7))]) (by rfl) rfl (cs := ((Ids.one 7).map bv).toArray) (by kernel_rfl) ?_; simp only [Act.put, List.setIfInBounds_toArray, List.set_cons_zero, List.set_cons_succ]) | (refine wl_buildW (parts := #[(0, Operand.const (.int .u8 6))]) (by rfl) rfl (cs := ((Ids.one 6).map bv).toArray) (by kernel_rfl) ?_; simp only [Act.put, List.setIfInBounds_toArray, List.set_cons_zero, List.set_cons_succ]) | (refine wl_set (l := Ids.one 9) (g := gb) (n := bn) (c := bc) (els := EB) rfl rfl rfl (HM.out.get 3 rfl) rfl hkb (Ids.one_len 9) rfl ?_; intro w3 h1 h2; have HM : Hid _ := setOwn HM.out 3 rfl h1 h2; clear h1 h2) | (refine wl_set (l := Ids.one 8) (g := ga) (n := an) (c := ac) (els := EA) rfl rfl rfl (HM.out.get 2 rfl) rfl hka (Ids.one_len 8) rfl ?_; intro w3 h1 h2; have HM : Hid _ := setOwn HM.out 2 rfl h1 h2; clear h1 h2) | (refine wl_set (l := Ids.one 7) (g := gc) (n := cn) (c := cc) (els := EC) rfl rfl rfl (HM.out.get 4 rfl) rfl hkc (Ids.one_len 7) rfl ?_; intro w3 h1 h2; have HM : Hid _ := setOwn HM.out 4 rfl h1 h2; clear h1 h2) | (refine wl_set (l := Ids.one 6) (g := gd) (n := dn) (c := dc) (els := ED) rfl rfl rfl (HM.out.get 5 rfl) rfl hkd (Ids.one_len 6) rfl ?_; intro w3 h1 h2; have HM : Hid _ := setOwn HM.out 5 rfl h1 h2; clear h1 h2))
              go_roundw
              case rel => exact ⟨k + 1, _, _, _, _, by omega, rfl, HM.out⟩
              case measure => simp [intOf]; omega
            · skip
              go_wp2_with (first | (refine wl_buildW (parts := #[(0, Operand.const (.int .u8 9))]) (by rfl) rfl (cs := ((Ids.one 9).map bv).toArray) (by kernel_rfl) ?_; simp only [Act.put, List.setIfInBounds_toArray, List.set_cons_zero, List.set_cons_succ]) | (refine wl_buildW (parts := #[(0, Operand.const (.int .u8 8))]) (by rfl) rfl (cs := ((Ids.one 8).map bv).toArray) (by kernel_rfl) ?_; simp only [Act.put, List.setIfInBounds_toArray, List.set_cons_zero, List.set_cons_succ]) | (refine wl_buildW (parts := #[(0, Operand.const (.int .u8 7))]) (by rfl) rfl (cs := ((Ids.one 7).map bv).toArray) (by kernel_rfl) ?_; simp only [Act.put, List.setIfInBounds_toArray, List.set_cons_zero, List.set_cons_succ]) | (refine wl_buildW (parts := #[(0, Operand.const (.int .u8 6))]) (by rfl) rfl (cs := ((Ids.one 6).map bv).toArray) (by kernel_rfl) ?_; simp only [Act.put, List.setIfInBounds_toArray, List.set_cons_zero, List.set_cons_succ]) | (refine wl_set (l := Ids.one 9) (g := gb) (n := bn) (c := bc) (els := EB) rfl rfl rfl (HM.out.get 3 rfl) rfl hkb (Ids.one_len 9) rfl ?_; intro w3 h1 h2; have HM : Hid _ := setOwn HM.out 3 rfl h1 h2; clear h1 h2) | (refine wl_set (l := Ids.one 8) (g := ga) (n := an) (c := ac) (els := EA) rfl rfl rfl (HM.out.get 2 rfl) rfl hka (Ids.one_len 8) rfl ?_; intro w3 h1 h2; have HM : Hid _ := setOwn HM.out 2 rfl h1 h2; clear h1 h2) | (refine wl_set (l := Ids.one 7) (g := gc) (n := cn) (c := cc) (els := EC) rfl rfl rfl (HM.out.get 4 rfl) rfl hkc (Ids.one_len 7) rfl ?_; intro w3 h1 h2; have HM : Hid _ := setOwn HM.out 4 rfl h1 h2; clear h1 h2) | (refine wl_set (l := Ids.one 6) (g := gd) (n := dn) (c := dc) (els := ED) rfl rfl rfl (HM.out.get 5 rfl) rfl hkd (Ids.one_len 6) rfl ?_; intro w3 h1 h2; have HM : Hid _ := setOwn HM.out 5 rfl h1 h2; clear h1 h2))
              go_roundw
              case rel => exact ⟨k + 1, _, _, _, _, by omega, rfl, HM.out⟩
              case measure => simp [intOf]; omega
          · by_cases hkd : k < dn
            · obtain ⟨gd, rfl⟩ := own_some (HM.out.get 5 rfl) hkd
              go_wp2_with (first | (refine wl_buildW (parts := #[(0, Operand.const (.int .u8 9))]) (by rfl) rfl (cs := ((Ids.one 9).map bv).toArray) (by kernel_rfl) ?_; simp only [Act.put, List.setIfInBounds_toArray, List.set_cons_zero, List.set_cons_succ]) | (refine wl_buildW (parts := #[(0, Operand.const (.int .u8 8))]) (by rfl) rfl (cs := ((Ids.one 8).map bv).toArray) (by kernel_rfl) ?_; simp only [Act.put, List.setIfInBounds_toArray, List.set_cons_zero, List.set_cons_succ]) | (refine wl_buildW (parts := #[(0, Operand.const (.int .u8 7))]) (by rfl) rfl (cs := ((Ids.one 7).map bv).toArray) (by kernel_rfl) ?_; simp only [Act.put, List.setIfInBounds_toArray, List.set_cons_zero, List.set_cons_succ]) | (refine wl_buildW (parts := #[(0, Operand.const (.int .u8 6))]) (by rfl) rfl (cs := ((Ids.one 6).map bv).toArray) (by kernel_rfl) ?_; simp only [Act.put, List.setIfInBounds_toArray, List.set_cons_zero, List.set_cons_succ]) | (refine wl_set (l := Ids.one 9) (g := gb) (n := bn) (c := bc) (els := EB) rfl rfl rfl (HM.out.get 3 rfl) rfl hkb (Ids.one_len 9) rfl ?_; intro w3 h1 h2; have HM : Hid _ := setOwn HM.out 3 rfl h1 h2; clear h1 h2) | (refine wl_set (l := Ids.one 8) (g := ga) (n := an) (c := ac) (els := EA) rfl rfl rfl (HM.out.get 2 rfl) rfl hka (Ids.one_len 8) rfl ?_; intro w3 h1 h2; have HM : Hid _ := setOwn HM.out 2 rfl h1 h2; clear h1 h2) | (refine wl_set (l := Ids.one 7) (g := gc) (n := cn) (c := cc) (els := EC) rfl rfl rfl (HM.out.get 4 rfl) rfl hkc (Ids.one_len 7) rfl ?_; intro w3 h1 h2; have HM : Hid _ := setOwn HM.out 4 rfl h1 h2; clear h1 h2) | (refine wl_set (l := Ids.one 6) (g := gd) (n := dn) (c := dc) (els := ED) rfl rfl rfl (HM.out.get 5 rfl) rfl hkd (Ids.one_len 6) rfl ?_; intro w3 h1 h2; have HM : Hid _ := setOwn HM.out 5 rfl h1 h2; clear h1 h2))
              go_roundw
              case rel => exact ⟨k + 1, _, _, _, _, by omega, rfl, HM.out⟩
              case measure => simp [intOf]; omega
            · skip
              go_wp2_with (first | (refine wl_buildW (parts := #[(0, Operand.const (.int .u8 9))]) (by rfl) rfl (cs := ((Ids.one 9).map bv).toArray) (by kernel_rfl) ?_; simp only [Act.put, List.setIfInBounds_toArray, List.set_cons_zero, List.set_cons_succ]) | (refine wl_buildW (parts := #[(0, Operand.const (.int .u8 8))]) (by rfl) rfl (cs := ((Ids.one 8).map bv).toArray) (by kernel_rfl) ?_; simp only [Act.put, List.setIfInBounds_toArray, List.set_cons_zero, List.set_cons_succ]) | (refine wl_buildW (parts := #[(0, Operand.const (.int .u8 7))]) (by rfl) rfl (cs := ((Ids.one 7).map bv).toArray) (by kernel_rfl) ?_; simp only [Act.put, List.setIfInBounds_toArray, List.set_cons_zero, List.set_cons_succ]) | (refine wl_buildW (parts := #[(0, Operand.const (.int .u8 6))]) (by rfl) rfl (cs := ((Ids.one 6).map bv).toArray) (by kernel_rfl) ?_; simp only [Act.put, List.setIfInBounds_toArray, List.set_cons_zero, List.set_cons_succ]) | (refine wl_set (l := Ids.one 9) (g := gb) (n := bn) (c := bc) (els := EB) rfl rfl rfl (HM.out.get 3 rfl) rfl hkb (Ids.one_len 9) rfl ?_; intro w3 h1 h2; have HM : Hid _ := setOwn HM.out 3 rfl h1 h2; clear h1 h2) | (refine wl_set (l := Ids.one 8) (g := ga) (n := an) (c := ac) (els := EA) rfl rfl rfl (HM.out.get 2 rfl) rfl hka (Ids.one_len 8) rfl ?_; intro w3 h1 h2; have HM : Hid _ := setOwn HM.out 2 rfl h1 h2; clear h1 h2) | (refine wl_set (l := Ids.one 7) (g := gc) (n := cn) (c := cc) (els := EC) rfl rfl rfl (HM.out.get 4 rfl) rfl hkc (Ids.one_len 7) rfl ?_; intro w3 h1 h2; have HM : Hid _ := setOwn HM.out 4 rfl h1 h2; clear h1 h2) | (refine wl_set (l := Ids.one 6) (g := gd) (n := dn) (c := dc) (els := ED) rfl rfl rfl (HM.out.get 5 rfl) rfl hkd (Ids.one_len 6) rfl ?_; intro w3 h1 h2; have HM : Hid _ := setOwn HM.out 5 rfl h1 h2; clear h1 h2))
              go_roundw
              case rel => exact ⟨k + 1, _, _, _, _, by omega, rfl, HM.out⟩
              case measure => simp [intOf]; omega
        · by_cases hkc : k < cn
          · obtain ⟨gc, rfl⟩ := own_some (HM.out.get 4 rfl) hkc
            by_cases hkd : k < dn
            · obtain ⟨gd, rfl⟩ := own_some (HM.out.get 5 rfl) hkd
              go_wp2_with (first | (refine wl_buildW (parts := #[(0, Operand.const (.int .u8 9))]) (by rfl) rfl (cs := ((Ids.one 9).map bv).toArray) (by kernel_rfl) ?_; simp only [Act.put, List.setIfInBounds_toArray, List.set_cons_zero, List.set_cons_succ]) | (refine wl_buildW (parts := #[(0, Operand.const (.int .u8 8))]) (by rfl) rfl (cs := ((Ids.one 8).map bv).toArray) (by kernel_rfl) ?_; simp only [Act.put, List.setIfInBounds_toArray, List.set_cons_zero, List.set_cons_succ]) | (refine wl_buildW (parts := #[(0, Operand.const (.int .u8 7))]) (by rfl) rfl (cs := ((Ids.one 7).map bv).toArray) (by kernel_rfl) ?_; simp only [Act.put, List.setIfInBounds_toArray, List.set_cons_zero, List.set_cons_succ]) | (refine wl_buildW (parts := #[(0, Operand.const (.int .u8 6))]) (by rfl) rfl (cs := ((Ids.one 6).map bv).toArray) (by kernel_rfl) ?_; simp only [Act.put, List.setIfInBounds_toArray, List.set_cons_zero, List.set_cons_succ]) | (refine wl_set (l := Ids.one 9) (g := gb) (n := bn) (c := bc) (els := EB) rfl rfl rfl (HM.out.get 3 rfl) rfl hkb (Ids.one_len 9) rfl ?_; intro w3 h1 h2; have HM : Hid _ := setOwn HM.out 3 rfl h1 h2; clear h1 h2) | (refine wl_set (l := Ids.one 8) (g := ga) (n := an) (c := ac) (els := EA) rfl rfl rfl (HM.out.get 2 rfl) rfl hka (Ids.one_len 8) rfl ?_; intro w3 h1 h2; have HM : Hid _ := setOwn HM.out 2 rfl h1 h2; clear h1 h2) | (refine wl_set (l := Ids.one 7) (g := gc) (n := cn) (c := cc) (els := EC) rfl rfl rfl (HM.out.get 4 rfl) rfl hkc (Ids.one_len 7) rfl ?_; intro w3 h1 h2; have HM : Hid _ := setOwn HM.out 4 rfl h1 h2; clear h1 h2) | (refine wl_set (l := Ids.one 6) (g := gd) (n := dn) (c := dc) (els := ED) rfl rfl rfl (HM.out.get 5 rfl) rfl hkd (Ids.one_len 6) rfl ?_; intro w3 h1 h2; have HM : Hid _ := setOwn HM.out 5 rfl h1 h2; clear h1 h2))
              go_roundw
              case rel => exact ⟨k + 1, _, _, _, _, by omega, rfl, HM.out⟩
              case measure => simp [intOf]; omega
            · skip
              go_wp2_with (first | (refine wl_buildW (parts := #[(0, Operand.const (.int .u8 9))]) (by rfl) rfl (cs := ((Ids.one 9).map bv).toArray) (by kernel_rfl) ?_; simp only [Act.put, List.setIfInBounds_toArray, List.set_cons_zero, List.set_cons_succ]) | (refine wl_buildW (parts := #[(0, Operand.const (.int .u8 8))]) (by rfl) rfl (cs := ((Ids.one 8).map bv).toArray) (by kernel_rfl) ?_; simp only [Act.put, List.setIfInBounds_toArray, List.set_cons_zero, List.set_cons_succ]) | (refine wl_buildW (parts := #[(0, Operand.const (.int .u8 7))]) (by rfl) rfl (cs := ((Ids.one 7).map bv).toArray) (by kernel_rfl) ?_; simp only [Act.put, List.setIfInBounds_toArray, List.set_cons_zero, List.set_cons_succ]) | (refine wl_buildW (parts := #[(0, Operand.const (.int .u8 6))]) (by rfl) rfl (cs := ((Ids.one 6).map bv).toArray) (by kernel_rfl) ?_; simp only [Act.put, List.setIfInBounds_toArray, List.set_cons_zero, List.set_cons_succ]) | (refine wl_set (l := Ids.one 9) (g := gb) (n := bn) (c := bc) (els := EB) rfl rfl rfl (HM.out.get 3 rfl) rfl hkb (Ids.one_len 9) rfl ?_; intro w3 h1 h2; have HM : Hid _ := setOwn HM.out 3 rfl h1 h2; clear h1 h2) | (refine wl_set (l := Ids.one 8) (g := ga) (n := an) (c := ac) (els := EA) rfl rfl rfl (HM.out.get 2 rfl) rfl hka (Ids.one_len 8) rfl ?_; intro w3 h1 h2; have HM : Hid _ := setOwn HM.out 2 rfl h1 h2; clear h1 h2) | (refine wl_set (l := Ids.one 7) (g := gc) (n := cn) (c := cc) (els := EC) rfl rfl rfl (HM.out.get 4 rfl) rfl hkc (Ids.one_len 7) rfl ?_; intro w3 h1 h2; have HM : Hid _ := setOwn HM.out 4 rfl h1 h2; clear h1 h2) | (refine wl_set (l := Ids.one 6) (g := gd) (n := dn) (c := dc) (els := ED) rfl rfl rfl (HM.out.get 5 rfl) rfl hkd (Ids.one_len 6) rfl ?_; intro w3 h1 h2; have HM : Hid _ := setOwn HM.out 5 rfl h1 h2; clear h1 h2))
              go_roundw
              case rel => exact ⟨k + 1, _, _, _, _, by omega, rfl, HM.out⟩
              case measure => simp [intOf]; omega
          · by_cases hkd : k < dn
            · obtain ⟨gd, rfl⟩ := own_some (HM.out.get 5 rfl) hkd
              go_wp2_with (first | (refine wl_buildW (parts := #[(0, Operand.const (.int .u8 9))]) (by rfl) rfl (cs := ((Ids.one 9).map bv).toArray) (by kernel_rfl) ?_; simp only [Act.put, List.setIfInBounds_toArray, List.set_cons_zero, List.set_cons_succ]) | (refine wl_buildW (parts := #[(0, Operand.const (.int .u8 8))]) (by rfl) rfl (cs := ((Ids.one 8).map bv).toArray) (by kernel_rfl) ?_; simp only [Act.put, List.setIfInBounds_toArray, List.set_cons_zero, List.set_cons_succ]) | (refine wl_buildW (parts := #[(0, Operand.const (.int .u8 7))]) (by rfl) rfl (cs := ((Ids.one 7).map bv).toArray) (by kernel_rfl) ?_; simp only [Act.put, List.setIfInBounds_toArray, List.set_cons_zero, List.set_cons_succ]) | (refine wl_buildW (parts := #[(0, Operand.const (.int .u8 6))]) (by rfl) rfl (cs := ((Ids.one 6).map bv).toArray) (by kernel_rfl) ?_; simp only [Act.put, List.setIfInBounds_toArray, List.set_cons_zero, List.set_cons_succ]) | (refine wl_set (l := Ids.one 9) (g := gb) (n := bn) (c := bc) (els := EB) rfl rfl rfl (HM.out.get 3 rfl) rfl hkb (Ids.one_len 9) rfl ?_; intro w3 h1 h2; have HM : Hid _ := setOwn HM.out 3 rfl h1 h2; clear h1 h2) | (refine wl_set (l := Ids.one 8) (g := ga) (n := an) (c := ac) (els := EA) rfl rfl rfl (HM.out.get 2 rfl) rfl hka (Ids.one_len 8) rfl ?_; intro w3 h1 h2; have HM : Hid _ := setOwn HM.out 2 rfl h1 h2; clear h1 h2) | (refine wl_set (l := Ids.one 7) (g := gc) (n := cn) (c := cc) (els := EC) rfl rfl rfl (HM.out.get 4 rfl) rfl hkc (Ids.one_len 7) rfl ?_; intro w3 h1 h2; have HM : Hid _ := setOwn HM.out 4 rfl h1 h2; clear h1 h2) | (refine wl_set (l := Ids.one 6) (g := gd) (n := dn) (c := dc) (els := ED) rfl rfl rfl (HM.out.get 5 rfl) rfl hkd (Ids.one_len 6) rfl ?_; intro w3 h1 h2; have HM : Hid _ := setOwn HM.out 5 rfl h1 h2; clear h1 h2))
              go_roundw
              case rel => exact ⟨k + 1, _, _, _, _, by omega, rfl, HM.out⟩
              case measure => simp [intOf]; omega
            · skip
              go_wp2_with (first | (refine wl_buildW (parts := #[(0, Operand.const (.int .u8 9))]) (by rfl) rfl (cs := ((Ids.one 9).map bv).toArray) (by kernel_rfl) ?_; simp only [Act.put, List.setIfInBounds_toArray, List.set_cons_zero, List.set_cons_succ]) | (refine wl_buildW (parts := #[(0, Operand.const (.int .u8 8))]) (by rfl) rfl (cs := ((Ids.one 8).map bv).toArray) (by kernel_rfl) ?_; simp only [Act.put, List.setIfInBounds_toArray, List.set_cons_zero, List.set_cons_succ]) | (refine wl_buildW (parts := #[(0, Operand.const (.int .u8 7))]) (by rfl) rfl (cs := ((Ids.one 7).map bv).toArray) (by kernel_rfl) ?_; simp only [Act.put, List.setIfInBounds_toArray, List.set_cons_zero, List.set_cons_succ]) | (refine wl_buildW (parts := #[(0, Operand.const (.int .u8 6))]) (by rfl) rfl (cs := ((Ids.one 6).map bv).toArray) (by kernel_rfl) ?_; simp only [Act.put, List.setIfInBounds_toArray, List.set_cons_zero, List.set_cons_succ]) | (refine wl_set (l := Ids.one 9) (g := gb) (n := bn) (c := bc) (els := EB) rfl rfl rfl (HM.out.get 3 rfl) rfl hkb (Ids.one_len 9) rfl ?_; intro w3 h1 h2; have HM : Hid _ := setOwn HM.out 3 rfl h1 h2; clear h1 h2) | (refine wl_set (l := Ids.one 8) (g := ga) (n := an) (c := ac) (els := EA) rfl rfl rfl (HM.out.get 2 rfl) rfl hka (Ids.one_len 8) rfl ?_; intro w3 h1 h2; have HM : Hid _ := setOwn HM.out 2 rfl h1 h2; clear h1 h2) | (refine wl_set (l := Ids.one 7) (g := gc) (n := cn) (c := cc) (els := EC) rfl rfl rfl (HM.out.get 4 rfl) rfl hkc (Ids.one_len 7) rfl ?_; intro w3 h1 h2; have HM : Hid _ := setOwn HM.out 4 rfl h1 h2; clear h1 h2) | (refine wl_set (l := Ids.one 6) (g := gd) (n := dn) (c := dc) (els := ED) rfl rfl rfl (HM.out.get 5 rfl) rfl hkd (Ids.one_len 6) rfl ?_; intro w3 h1 h2; have HM : Hid _ := setOwn HM.out 5 rfl h1 h2; clear h1 h2))
              go_roundw
              case rel => exact ⟨k + 1, _, _, _, _, by omega, rfl, HM.out⟩
              case measure => simp [intOf]; omega
      · obtain rfl : k = bn := by omega
        go_wp2_with (first | (go_at_call 15; refine (same_eq _ am a nm n cm c l l (HM.out.get 1 rfl).atS (A1.out.calm HM.out.keep) rfl).mono ?_; rintro e w5 ⟨rfl, k1⟩; have HM : Hid _ := HM.out.calm k1; clear k1) | (go_at_call 12; refine (awake_true _).mono ?_; rintro e w5 ⟨rfl, k1⟩; have HM : Hid _ := HM.out.calm k1; clear k1))
        go_ret
        exact ⟨rfl, Keep.below HM.out.keep (Nat.le_refl _) (fun _ h => h.elim)⟩
  · go_enter Try.func5, Try.ntmps5
    go_wp2_with (go_at_call 12; refine (awake_true _).mono ?_; rintro e w5 ⟨rfl, k1⟩; have HM : Hid _ := HM.out.calm k1; clear k1)
    go_ret
    exact ⟨rfl, Keep.below HM.out.keep (Nat.le_refl _) (fun _ h => h.elim)⟩
set_option maxRecDepth 100000 in
theorem own : ownKnob Try.prog.godebug = none := by kernel_rfl
set_option maxRecDepth 100000 in
theorem laidOut : laidOutB Try.prog = true := by kernel_rfl
set_option maxRecDepth 100000 in
theorem contract (H : Type) (enc : TypeId × Value → H) (W : World) (base : Nat) (args : Array Value) (ds gs : List (DataW H)) (before : List MemPlace)
    (hval : ∀ (j : Nat) t v, Try.f5.params[j]? = some t → args[j]? = some v → Value.okWide Try.prog W .any base t v)
    (hW : DataW.Whole enc Try.prog Try.f5.params.toList Rows.identOwnSpec.vars false W args.toList ds gs before) :
    Calls Try.prog 5 args W fun e W' => ∃ v, e = .returned v ∧ Rows.identOwnSpec.post enc Try.prog Try.f5 false true false false W args v W' := by
  have hW' := hW
  obtain ⟨p, q, hA0, hV, rfl, hfz, hnd⟩ := hW
  have hA : DataW.TrodAll enc Try.prog W 0 (fun _ => true) true Try.f5.params.toList args.toList ds p := hA0
  rw [Try.params5] at hA hval
  obtain ⟨rfl, rfl⟩ := trodVars_none hV
  obtain ⟨v0, vs0, d0, ds0, p0, q0, hargs, rfl, rfl, h0, r0⟩ := trodAll_cons hA
  obtain ⟨v1, vs1, d1, ds1, p1, q1, rfl, rfl, rfl, h1, r1⟩ := trodAll_cons r0
  obtain ⟨rfl, rfl, rfl⟩ := trodAll_nil r1
  obtain rfl : args = #[v0, v1] := by cases args; simp_all
  obtain ⟨a, n, c, l, rfl, f0⟩ := Opn.open_idl (hval 0 _ v0 rfl rfl) h0
  obtain ⟨x, rfl, lx⟩ := Opn.open_id (hval 1 _ v1 rfl rfl) h1
  refine (walk W a n c l x f0 lx).mono fun e W' ⟨he, bel⟩ => ?_
  subst he
  exact ⟨_, rfl, Opn.law_post laidOut (by kernel_rfl) rfl Try.underlying4 rfl rfl hW' bel⟩
set_option maxRecDepth 100000 in
theorem lifted (os : Os) (started : os.Started) (H : Type) (enc : TypeId × Value → H) :
    ReturnsInHanded {} Try.checked os 5 .any (Rows.identOwnSpec.pre6 enc Try.prog Try.f5 Rows.identOwnRow.domain false) (Rows.identOwnSpec.post enc Try.prog Try.f5 false true false false) := by
  refine returnsInHanded_of_change (C := Try.checked) own started (by kernel_rfl) Try.func5
    (ChangeSpec.witness6 (enc := enc) (C := Try.checked) false ⟨#[], #[.slice none 0 0, idv (List.replicate 32 0)], []⟩ 8 (by kernel_rfl) (by kernel_rfl) (by kernel_rfl) (by kernel_rfl)) ?_
  intro W base args ds gs before hval0 hW hcnd _
  exact contract H enc W base args ds gs before hval0 hW
theorem over : Rows.identOwnRow.holds Try.pinned (OpenSpec.ofChange Rows.identOwnSpec) :=
  OpenClaim.holds_of_wide 5 Try.f5 rfl rfl rfl rfl rfl rfl rfl ⟨rfl, rfl, rfl, rfl, rfl⟩ rfl rfl rfl rfl rfl (by kernel_rfl) Try.func5 (by kernel_rfl)
    (of_decide_eq_true (by kernel_rfl)) (by unfold Func.isWrapper; first | (rw [if_pos (by decide +kernel)]; kernel_rfl) | (rw [if_neg (by decide +kernel)]; exact ⟨rfl, rfl⟩))
    (fun os started H enc _ => lifted os started H enc)
theorem proved : Rows.IdentOwnSaid := over
end IdentOwn
end Go.Proofs.Ytkoolpalhahigaa
