/-
  dag in memory: New, none, Len, Has; verdict of a header without parents.
-/
import Derived.Test.YthllhjdaknmlbaaDoorDz2
set_option linter.unusedVariables false
set_option linter.unusedSimpArgs false
namespace Go.Proofs.YthllhjdaknmlbaaDoor
open Go.RowKit
set_option linter.unusedSectionVars false
namespace Mp
section
variable {P : Program} {ops : Array Oper} {rest : List Oper} {o : Oper} {a : Act} {w : World} {Q : Exit → Act → World → Prop}
/-- 'map[K]E{}'. -/
theorem wl_make (hgd : o.guard = none) {T : TypeId} (ho : o.op = .makeMap T none) {b : Nat} (hb : w.heap.size = b)
    (hh : wpList P ops Q rest (a.put o.dst (.map (some b))) (w.alloc (.map #[] 0))) : wpList P ops Q (o :: rest) a w :=
  wpList_plain hgd fun K' hK' => by
    subst hb
    unfold Oper.wp
    simp [execOp, ho, run_makeMap]
    exact hK' _ _ hh
end
end Mp
namespace Dz
open Oct Ids Mp Gn Hd Ru
open Mem (M It blk ids rows)
theorem zero_of {t : TypeId} {z : Value} {n : Nat} (h : (Tryd.prog.info? t).map (fun i => (i.zero, i.size)) = some (some z, n)) (w : World) : (zeroValue t).run Tryd.prog w = .ok z w := by
  cases hi : Tryd.prog.info? t with
  | none => rw [hi] at h; cases h
  | some i =>
    rw [hi] at h
    simp only [Option.map_some, Option.some.injEq, Prod.mk.injEq] at h
    simp [zeroValue, typeInfo, hi, h.1]
abbrev dcs (b0 b1 b2 b3 : Nat) : Obj := .cells #[.map (some b0), .map (some b1), .map (some b2), .map (some b3)] 36
/-- A dag. -/
def di (db b0 b1 b2 b3 : Nat) (H B : List (Wd × Value)) (T : List (ByteArray × Value)) (C : List (Wd × Value)) : List It :=
  [blk db (dcs b0 b1 b2 b3), mp okI idv b0 H, mp okI idv b1 B, mp okS Value.string b2 T, mp okI idv b3 C]
set_option maxRecDepth 100000 in
theorem dnew (w : World) : Calls Tryd.prog 15 #[] w fun e w' => ∃ db b0 b1 b2 b3, e = .returned (.pointer (some ⟨db, 0, none⟩)) ∧ M (fun _ => False) w w' (di db b0 b1 b2 b3 [] [] [] []) := by
  have HM : Hid (M (fun _ => False) w w []) := M.start _ w
  go_enter Tryd.func15, Tryd.ntmps15
  go_wp2_with (first | (refine Mp.wl_make (T := 33) rfl rfl (by (try simp only [World.size_alloc]); rfl) ?_; have HM : Hid _ := M.newMap HM.out okS Value.string (by (try simp only [World.size_alloc]); rfl); simp only [Act.put, List.setIfInBounds_toArray, List.set_cons_zero, List.set_cons_succ]) | (refine Mp.wl_make rfl rfl (by (try simp only [World.size_alloc]); rfl) ?_; have HM : Hid _ := M.newMap HM.out okI idv (by (try simp only [World.size_alloc]); rfl); simp only [Act.put, List.setIfInBounds_toArray, List.set_cons_zero, List.set_cons_succ]))
  go_ret
  have HM := HM.out.alloc (dcs w.heap.size (w.heap.size + 1) (w.heap.size + 1 + 1) (w.heap.size + 1 + 1 + 1)) (by simp only [World.size_alloc]; rfl)
  have HM := HM.sub (di (w.heap.size + 1 + 1 + 1 + 1) w.heap.size (w.heap.size + 1) (w.heap.size + 1 + 1) (w.heap.size + 1 + 1 + 1) [] [] [] []) [4, 0, 1, 2, 3] (by decide) rfl
  exact ⟨_, _, _, _, _, rfl, HM⟩
section
variable (w : World) (db b0 b1 b2 b3 : Nat) (H B : List (Wd × Value)) (T : List (ByteArray × Value)) (C : List (Wd × Value))
set_option maxRecDepth 100000 in
theorem dnone (c0 : w.cell? ⟨db, 0, none⟩ = some (.map (some b0))) : Calls Tryd.prog 16 #[.pointer (some ⟨db, 0, none⟩)] w fun e w' => e = .returned (.bool false) ∧ w' = w := by
  have hcmp := map_nil Tryd.underlying31 (some b0)
  go_enter Tryd.func16, Tryd.ntmps16
  go_wp2
  go_ret
  exact ⟨rfl, rfl⟩
set_option maxRecDepth 100000 in
theorem dlen {w0 : World} (h : M (fun _ => False) w0 w (di db b0 b1 b2 b3 H B T C)) : Calls Tryd.prog 9 #[.pointer (some ⟨db, 0, none⟩)] w fun e w' => e = .returned (.int .i64 H.length) ∧ w' = w := by
  have c0 := h.cell 0 rfl 0 (v := .map (some b0)) rfl
  have HI : Hid (Is okI idv w b0 H) := h.get 1 rfl
  clear h
  go_enter Tryd.func9, Tryd.ntmps9
  go_wp2_with (first | (go_at_call 16; refine (dnone _ db b0 c0).mono ?_; rintro e w1 ⟨rfl, h1⟩; replace h1 := h1.symm; subst h1) | (refine Mp.wl_len Tryd.underlying31 rfl rfl rfl HI.out rfl ?_; simp only [Act.put, List.setIfInBounds_toArray, List.set_cons_zero, List.set_cons_succ]))
  go_ret
  exact ⟨rfl, rfl⟩
set_option maxRecDepth 100000 in
set_option maxHeartbeats 1000000 in
theorem dhas {w0 : World} (h : M (fun _ => False) w0 w (di db b0 b1 b2 b3 H B T C)) (u : Wd) (hu : u.length = 32) (hH : ∀ v, get H u = some v → ∃ cs : Array Value, v = .agg cs ∧ cs.size = 38 ∧ cs.all (·.oneCell') = true) :
    Calls Tryd.prog 8 #[.pointer (some ⟨db, 0, none⟩), idv u] w fun e w' => e = .returned (.bool (get H u).isSome) ∧ Keep (fun _ => False) w w' := by
  have HM : Hid _ := h.alloc (.cells (u.map bv).toArray 24) rfl
  have HW : Hid (Keep (fun _ => False) w _) := (Keep.refl (fun _ => False) w).alloc (.cells (u.map bv).toArray 24)
  have HU : Hid _ := hu
  have hz : ∃ cs : Array Value, (get H u).getD (.agg hz0) = .agg cs ∧ cs.size = 38 ∧ cs.all (·.oneCell') = true := by
    cases e : get H u with
    | none => exact ⟨hz0, rfl, rfl, hd_one _ _ _ _ _ _ _ _ _⟩
    | some v =>
      obtain ⟨cs, rfl, h2⟩ := hH v e
      exact ⟨cs, rfl, h2⟩
  obtain ⟨cs, e1, e2, e3⟩ := hz
  obtain ⟨t, ht⟩ : ∃ t, (get H u).isSome = t := ⟨_, rfl⟩
  have E1 : Hid _ := e1
  have E2 : Hid _ := e2
  have E3 : Hid _ := e3
  have HT : Hid _ := ht
  rw [ht]
  clear e1 e2 e3 ht hH h hu
  go_enter Tryd.func8, Tryd.ntmps8
  go_wp2_with (first | (go_at_call 16; refine (dnone _ db b0 (HM.out.cell 0 rfl 0 rfl)).mono ?_; rintro e w1 ⟨rfl, rfl⟩))
  have HM : Hid _ := HM.out.drew
  have c0 := HM.out.cell 0 rfl 0 (v := .map (some b0)) rfl
  refine Txt.wp_region_text (fun _ => True) [0, 0, 0, 1, 1, 1, 0, 0, 0, 3, 4, 0] (by kernel_rfl) (by kernel_rfl) trivial ?_
  (repeat (first | (refine Txt.tl_pure (v := ?_) (by rfl) ?_ ?_; rotate_left; (focus (intro _; go_simp; try with_reducible rfl)); simp only [Act.put, List.setIfInBounds_toArray, List.set_cons_zero, List.set_cons_succ]) | (refine Txt.tl_load (v := ?_) (by rfl) (by rfl) (by rfl) (by kernel_rfl) ?_ ?_; rotate_left; (focus assumption); simp only [Act.put, List.setIfInBounds_toArray, List.set_cons_zero, List.set_cons_succ]) | (refine Txt.tl_rowN (n := 32) (ty := 24) (by rfl) (by rfl) (by rfl) (HM.out.range 5 rfl) (by kernel_rfl) (by rw [List.length_map]; exact HU.out) ?_; simp only [Act.put, List.setIfInBounds_toArray, List.set_cons_zero, List.set_cons_succ]) | (refine Txt.tl_skip (by rfl) trivial ?_; simp only [Act.put, List.setIfInBounds_toArray, List.set_cons_zero, List.set_cons_succ])))
  refine Mp.tl_lookok idKey Tryd.underlying31 (by rfl) rfl rfl (HM.out.get 1 rfl) (zero_of tyH.info) HU.out rfl E1.out HT.out ?_
  simp only [Act.put, List.setIfInBounds_toArray, List.set_cons_zero, List.set_cons_succ]
  (repeat (first | (refine Txt.tl_pure (v := ?_) (by rfl) ?_ ?_; rotate_left; (focus (intro _; go_simp; try with_reducible rfl)); simp only [Act.put, List.setIfInBounds_toArray, List.set_cons_zero, List.set_cons_succ]) | (refine Txt.tl_load (v := ?_) (by rfl) (by rfl) (by rfl) (by kernel_rfl) ?_ ?_; rotate_left; (focus assumption); simp only [Act.put, List.setIfInBounds_toArray, List.set_cons_zero, List.set_cons_succ]) | (refine Txt.tl_rowN (n := 32) (ty := 24) (by rfl) (by rfl) (by rfl) (HM.out.range 5 rfl) (by kernel_rfl) (by rw [List.length_map]; exact HU.out) ?_; simp only [Act.put, List.setIfInBounds_toArray, List.set_cons_zero, List.set_cons_succ]) | (refine Txt.tl_skip (by rfl) trivial ?_; simp only [Act.put, List.setIfInBounds_toArray, List.set_cons_zero, List.set_cons_succ])))
  refine Txt.tl_alloc (by rfl) ?_
  refine St.wp_alloc tyH rfl ?_
  have HM : Hid _ := HM.out.alloc (.cells hz0 26) rfl
  refine ⟨⟨Txt.Le.alloc _ _, trivial⟩, ?_⟩
  simp only [Act.put, List.setIfInBounds_toArray, List.set_cons_zero, List.set_cons_succ]
  clear c0
  refine Txt.tl_loud (by rfl) ?_
  refine St.wp_store tyH rfl rfl rfl rfl (cs := cs) E2.out E3.out (HM.out.get 6 rfl) rfl ?_
  have HM : Hid _ := HM.out.setr 6 rfl cs
  refine ⟨trivial, ?_⟩
  (repeat (first | (refine Txt.tl_pure (v := ?_) (by rfl) ?_ ?_; rotate_left; (focus (intro _; go_simp; try with_reducible rfl)); simp only [Act.put, List.setIfInBounds_toArray, List.set_cons_zero, List.set_cons_succ]) | (refine Txt.tl_load (v := ?_) (by rfl) (by rfl) (by rfl) (by kernel_rfl) ?_ ?_; rotate_left; (focus assumption); simp only [Act.put, List.setIfInBounds_toArray, List.set_cons_zero, List.set_cons_succ]) | (refine Txt.tl_rowN (n := 32) (ty := 24) (by rfl) (by rfl) (by rfl) (HM.out.range 5 rfl) (by kernel_rfl) (by rw [List.length_map]; exact HU.out) ?_; simp only [Act.put, List.setIfInBounds_toArray, List.set_cons_zero, List.set_cons_succ]) | (refine Txt.tl_skip (by rfl) trivial ?_; simp only [Act.put, List.setIfInBounds_toArray, List.set_cons_zero, List.set_cons_succ])))
  refine Txt.tl_nil ?_
  go_wp2
  go_ret
  refine ⟨rfl, ?_⟩
  exact (HW.out.drew.alloc (.cells hz0 26)).trans' ((Keep.refl (fun k => k = (w.alloc (.cells (u.map bv).toArray 24)).drew.heap.size) _).setRow _ cs (fun _ => rfl)) (fun _ _ h => h) (fun k hk e => by subst e; simp [World.drew] at hk; omega)
set_option maxRecDepth 100000 in
/-- None of a header's parents is unknown where there is none. -/
theorem dunknown {w0 : World} (h : M (fun _ => False) w0 w (di db b0 b1 b2 b3 H B T C)) (G : Int) (t : ByteArray) (A Q Z : Int) (m : List UInt8) : Calls Tryd.prog 14 #[.pointer (some ⟨db, 0, none⟩), .agg (h0 G t A Q Z m)] w fun e w' => e = .returned (.slice none 0 0) ∧ Keep (fun _ => False) w w' := by
  have HM : Hid _ := h.alloc (.cells (h0 G t A Q Z m) 26) rfl
  have HW : Hid (Keep (fun _ => False) w _) := (Keep.refl (fun _ => False) w).alloc (.cells (h0 G t A Q Z m) 26)
  have c5 := HM.out.cell 5 rfl 0 (v := .slice none 0 0) rfl
  have c0 := HM.out.cell 0 rfl 0 (v := .map (some b0)) rfl
  generalize h0 G t A Q Z m = X at HM HW c5 c0 ⊢
  clear h
  go_enter Tryd.func14, Tryd.ntmps14
  go_wp2_with (first | (go_at_call 16; refine (dnone _ db b0 c0).mono ?_; rintro e w1 ⟨rfl, h1⟩; rw [h1]; clear h1))
  go_loopw [5, 13] (fun s5 s13 wr => s5 = .slice none 0 0 ∧ s13 = .int .i64 0 ∧ Keep (fun _ => False) w wr) (fun _ _ _ => 0)
  case atStart => exact ⟨rfl, by go_num, HW.out⟩
  case round =>
    obtain ⟨rfl, rfl, hk⟩ := hrel
    have HK : Hid _ := hk
    clear hk
    go_wp2
    go_ret
    exact ⟨rfl, HK.out⟩
set_option maxRecDepth 100000 in
set_option maxHeartbeats 1000000 in
theorem dverdict {w0 : World} (h : M (fun _ => False) w0 w (di db b0 b1 b2 b3 H B T C)) (t : ByteArray) (A Q Z : Int) (m : List UInt8) (hm : m.length = 32) (ht : t.size ≤ maxLen) (hc : ck 0 [] 1 t A Q Z = 0) : Calls Tryd.prog 17 #[.pointer (some ⟨db, 0, none⟩), .agg (h0 1 t A Q Z m)] w fun e w' => e = .returned (.int .i64 0) ∧ Keep (fun _ => False) w w' := by
  have HM : Hid _ := h.alloc (.cells (h0 1 t A Q Z m) 26) rfl
  have HW : Hid (Keep (fun _ => False) w _) := (Keep.refl (fun _ => False) w).alloc (.cells (h0 1 t A Q Z m) 26)
  have HC : Hid (∀ w, Calls Tryd.prog 26 #[.agg (h0 1 t A Q Z m)] w fun e w' => e = .returned (.int .i64 0) ∧ Keep (fun _ => False) w w') := fun w => check_any w none 0 0 [] 1 t A Q Z m (nil_at w) hm (by omega) ht 0 hc
  have HN : Hid (∀ w, M (fun _ => False) w0 w (di db b0 b1 b2 b3 H B T C) → Calls Tryd.prog 14 #[.pointer (some ⟨db, 0, none⟩), .agg (h0 1 t A Q Z m)] w fun e w' => e = .returned (.slice none 0 0) ∧ Keep (fun _ => False) w w') := fun w hw => dunknown w db b0 b1 b2 b3 H B T C hw 1 t A Q Z m
  have HG : Hid (∀ w, Calls Tryd.prog 27 #[.slice none 0 0] w fun e w' => e = .returned (.int .i64 1) ∧ Keep (fun _ => False) w w') := fun w => height_any w none 0 0 [] ⟨rfl, Nat.zero_le _, .inl rfl⟩ (by omega)
  have c5 := HM.out.cell 5 rfl 0 (v := .slice none 0 0) rfl
  have c6 : ∀ wr, M (fun _ => False) w0 wr (di db b0 b1 b2 b3 H B T C ++ [blk w.heap.size (.cells (h0 1 t A Q Z m) 26)]) → wr.cell? ⟨w.heap.size, 1, none⟩ = some (.int .i64 1) := fun wr hh => hh.cell 5 rfl 1 rfl
  have c7 : ∀ wr, M (fun _ => False) w0 wr (di db b0 b1 b2 b3 H B T C ++ [blk w.heap.size (.cells (h0 1 t A Q Z m) 26)]) → wr.cell? ⟨w.heap.size, 0, none⟩ = some (.slice none 0 0) := fun wr hh => hh.cell 5 rfl 0 rfl
  have hs : (h0 1 t A Q Z m).size = 38 := by rw [List.size_toArray]; exact hd_len _ _ _ _ _ _ _ hm
  have HS : Hid _ := hs
  generalize h0 1 t A Q Z m = X at HM HW HC HN c5 c6 c7 HS hs ⊢
  have C6 : Hid _ := c6
  have C7 : Hid _ := c7
  clear h hs c5 c6 c7
  go_enter Tryd.func17, Tryd.ntmps17
  go_wp2_with (first | ((with_reducible refine at_load 26 ?_); refine St.wl_load tyH (by rfl) rfl rfl (cs := X.toList) (HM.out.range 5 rfl) (by rw [Array.length_toList]; exact HS.out) ?_; simp only [Act.put, List.setIfInBounds_toArray, List.set_cons_zero, List.set_cons_succ]) | (go_at_call 26; refine (HC.out _).mono ?_; rintro e w1 ⟨rfl, k1⟩; have HM : Hid _ := HM.out.calm k1; have HW : Hid _ := HW.out.trans k1; clear k1) | (go_at_call 14; refine (HN.out _ (HM.out.take 5)).mono ?_; rintro e w1 ⟨rfl, k1⟩; have HM : Hid _ := HM.out.calm k1; have HW : Hid _ := HW.out.trans k1; clear k1; have c7 := C7.out _ HM.out))
  go_loopw [6, 22] (fun s6 s22 wr => s6 = .slice none 0 0 ∧ s22 = .int .i64 0 ∧ M (fun _ => False) w0 wr (di db b0 b1 b2 b3 H B T C ++ [blk w.heap.size (.cells X 26)]) ∧ Keep (fun _ => False) w wr) (fun _ _ _ => 0)
  case atStart => exact ⟨rfl, by go_num, HM.out, HW.out⟩
  case round =>
    obtain ⟨rfl, rfl, hM, hk⟩ := hrel
    have HM : Hid _ := hM.drew
    have HK : Hid _ := hk.drew
    clear hM hk
    go_wp2
    refine Txt.wp_region_text (id := 12) (fun w' => w'.cell? ⟨w.heap.size, 1, none⟩ = some (.int .i64 1)) [0, 4, 0, 2, 0] (by kernel_rfl) (by kernel_rfl) (C6.out _ HM.out) ?_
    (repeat (first | (refine Txt.tl_pure (v := ?_) (by rfl) ?_ ?_; rotate_left; (focus (intro _; go_simp; try with_reducible rfl)); simp only [Act.put, List.setIfInBounds_toArray, List.set_cons_zero, List.set_cons_succ]) | (refine Txt.tl_load (v := ?_) (by rfl) (by rfl) (by rfl) (by kernel_rfl) ?_ ?_; rotate_left; (focus assumption); simp only [Act.put, List.setIfInBounds_toArray, List.set_cons_zero, List.set_cons_succ]) | (refine Txt.tl_loadS (v := ?_) (by rfl) (by rfl) (by rfl) (by kernel_rfl) ?_ ?_; rotate_left; (focus (exact fun _ h => h)); simp only [Act.put, List.setIfInBounds_toArray, List.set_cons_zero, List.set_cons_succ])))
    refine Txt.tl_call Tryd.func27 (by kernel_rfl) (by kernel_rfl) (by rfl) (by rfl) (by rfl) (HG.out _) ?_
    rintro e w5 ⟨rfl, k5⟩
    have HM : Hid _ := HM.out.calm k5
    have HK : Hid _ := HK.out.trans k5
    clear k5
    refine ⟨_, rfl, C6.out _ HM.out, ?_⟩
    simp only [Act.put, List.setIfInBounds_toArray, List.set_cons_zero, List.set_cons_succ]
    (repeat (first | (refine Txt.tl_pure (v := ?_) (by rfl) ?_ ?_; rotate_left; (focus (intro _; go_simp; try with_reducible rfl)); simp only [Act.put, List.setIfInBounds_toArray, List.set_cons_zero, List.set_cons_succ]) | (refine Txt.tl_load (v := ?_) (by rfl) (by rfl) (by rfl) (by kernel_rfl) ?_ ?_; rotate_left; (focus assumption); simp only [Act.put, List.setIfInBounds_toArray, List.set_cons_zero, List.set_cons_succ]) | (refine Txt.tl_loadS (v := ?_) (by rfl) (by rfl) (by rfl) (by kernel_rfl) ?_ ?_; rotate_left; (focus (exact fun _ h => h)); simp only [Act.put, List.setIfInBounds_toArray, List.set_cons_zero, List.set_cons_succ])))
    refine Txt.tl_loadS (v := .int .i64 1) (by rfl) (by rfl) (by rfl) (by kernel_rfl) (fun _ h => h) ?_
    simp only [Act.put, List.setIfInBounds_toArray, List.set_cons_zero, List.set_cons_succ]
    (repeat (first | (refine Txt.tl_pure (v := ?_) (by rfl) ?_ ?_; rotate_left; (focus (intro _; go_simp; try with_reducible rfl)); simp only [Act.put, List.setIfInBounds_toArray, List.set_cons_zero, List.set_cons_succ]) | (refine Txt.tl_load (v := ?_) (by rfl) (by rfl) (by rfl) (by kernel_rfl) ?_ ?_; rotate_left; (focus assumption); simp only [Act.put, List.setIfInBounds_toArray, List.set_cons_zero, List.set_cons_succ]) | (refine Txt.tl_loadS (v := ?_) (by rfl) (by rfl) (by rfl) (by kernel_rfl) ?_ ?_; rotate_left; (focus (exact fun _ h => h)); simp only [Act.put, List.setIfInBounds_toArray, List.set_cons_zero, List.set_cons_succ])))
    refine Txt.tl_nil ?_
    go_wp2
    go_ret
    exact ⟨rfl, HK.out⟩
end
end Dz
end Go.Proofs.YthllhjdaknmlbaaDoor
