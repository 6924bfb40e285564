/-
  'petrellaw18.PenZero': a pen that nobody made has nobody. For every input.
-/
import Derived.Test.YthdjbpimjbkajaaDoorPn9
import Derived.Test.YthdjbpimjbkajaaDoorLad2
import Derived.Test.YthdjbpimjbkajaaDoorTie
import Derived.Test.YthdjbpimjbkajaaDoorCards
import Derived.SevenTiedAt
import Derived.Stop.Joined
set_option linter.unusedVariables false
set_option linter.unusedSimpArgs false
namespace Go.Proofs.YthdjbpimjbkajaaDoor
open Go.RowKit
namespace PenZero
open Oct Ids Gn Hd Pn Go.ChangeShapes Go.WideShapes Go.ChangeAt
open Mem (M It blk ids rows)

abbrev zc : Obj := .cells #[.slice none 0 0, .int .i64 0, .bool false] 58
/-- A pen that nobody made. -/
def Zp (w : World) (p : Value) : Prop := p = .pointer none ∨ ∃ b, p = .pointer (some ⟨b, 0, none⟩) ∧ w.heap[b]? = some (.cells #[.slice none 0 0, .int .i64 0, .bool false] 58 (0, 0))
theorem Zp.calm {w w' : World} {p : Value} (h : Zp w p) (k : Keep (fun _ => False) w w') : Zp w' p := h.imp id fun ⟨b, e, hb⟩ => ⟨b, e, k.get hb (fun h => h)⟩
set_option maxRecDepth 100000 in
theorem znone (w : World) (p : Value) (h : Zp w p) : Calls Tryd.prog 58 #[p] w fun e w' => e = .returned (.bool true) ∧ w' = w := by
  rcases h with rfl | ⟨b, rfl, hb⟩
  · go_enter Tryd.func58, Tryd.ntmps58
    go_wp2
    go_ret
    exact ⟨rfl, rfl⟩
  · have c2 : w.cell? ⟨b, 2, none⟩ = some (.bool false) := by rw [cell_of hb]; rfl
    clear hb
    go_enter Tryd.func58, Tryd.ntmps58
    go_wp2
    go_ret
    exact ⟨rfl, rfl⟩
section
variable (w : World) (p : Value) (h : Zp w p)
include h
set_option maxRecDepth 100000 in
theorem zput (X : Array Value) (fr : Int) : Calls Tryd.prog 25 #[p, .agg X, .int .i64 fr] w fun e w' => e = .returned (.tuple #[idv Z32, .bool false, .int .i64 8]) ∧ Keep (fun _ => False) w w' := by
  have HZ : Hid (Zp w p) := h
  have HM : Hid (M (fun _ => False) w _ [blk w.heap.size (.cells X 29), blk (w.heap.size + 1) (.cells z32 23)]) := ((M.start _ w).alloc (.cells X 29) rfl).alloc (.cells z32 23) (by simp)
  clear h
  go_enter Tryd.func25, Tryd.ntmps25
  go_wp2_with (first | (go_at_call 58; refine (znone _ p (HZ.out.calm HM.out.keep)).mono ?_; rintro e w1 ⟨rfl, rfl⟩) | (refine St.wl_alloc tyI rfl rfl (by (try simp only [World.size_alloc]); rfl) ?_; simp only [Act.put, List.setIfInBounds_toArray, List.set_cons_zero, List.set_cons_succ]) | (refine St.wl_buildV (T := 23) (parts := #[]) rfl rfl (cs := z32) (by kernel_rfl) ?_; simp only [Act.put, List.setIfInBounds_toArray, List.set_cons_zero, List.set_cons_succ]) | (refine St.wl_store tyI rfl rfl rfl rfl rfl (cs := z32) rfl (one_bv (List.replicate 32 0)) (HM.out.get 1 rfl) rfl ?_; have HM : Hid _ := HM.out.setr 1 rfl z32))
  refine bodyPost_ret (St.res3 tyI rfl _ _ _ z32 rfl rfl (HM.out.get 1 rfl) _ _ rfl rfl) rfl ?_
  exact ⟨rfl, HM.out.keep⟩
set_option maxRecDepth 100000 in
theorem ztake : Calls Tryd.prog 27 #[p, .slice none 0 0] w fun e w' => e = .returned (.tuple #[.agg hz0, .int .i64 0, .bool false]) ∧ Keep (fun _ => False) w w' := by
  have HZ : Hid (Zp w p) := h
  have HM : Hid (M (fun _ => False) w _ [blk w.heap.size (.cells hz0 29)]) := (M.start _ w).alloc (.cells hz0 29) rfl
  clear h
  go_enter Tryd.func27, Tryd.ntmps27
  go_wp2_with (first | (go_at_call 58; refine (znone _ p (HZ.out.calm HM.out.keep)).mono ?_; rintro e w1 ⟨rfl, rfl⟩) | (refine St.wl_alloc tyH rfl rfl (by (try simp only [World.size_alloc]); rfl) ?_; simp only [Act.put, List.setIfInBounds_toArray, List.set_cons_zero, List.set_cons_succ]) | (refine St.wl_buildV (T := 29) (parts := #[]) rfl rfl (cs := hz0) (by kernel_rfl) ?_; simp only [Act.put, List.setIfInBounds_toArray, List.set_cons_zero, List.set_cons_succ]) | (refine St.wl_store tyH rfl rfl rfl rfl rfl (cs := hz0) rfl (hd_one _ _ _ _ _ _ _ _ _) (HM.out.get 0 rfl) rfl ?_; have HM : Hid _ := HM.out.setr 0 rfl hz0))
  refine bodyPost_ret (St.res3 tyH rfl _ _ _ hz0 rfl rfl (HM.out.get 0 rfl) _ _ rfl rfl) rfl ?_
  exact ⟨rfl, HM.out.keep⟩
set_option maxRecDepth 100000 in
theorem zhas (u : List UInt8) : Calls Tryd.prog 28 #[p, idv u] w fun e w' => e = .returned (.bool false) ∧ Keep (fun _ => False) w w' := by
  have HZ : Hid (Zp (w.alloc (.cells (u.map bv).toArray 23)) p) := h.calm ((Keep.refl _ _).alloc _)
  clear h
  go_enter Tryd.func28, Tryd.ntmps28
  go_wp2_with (go_at_call 58; refine (znone _ p HZ.out).mono ?_; rintro e w1 ⟨rfl, rfl⟩)
  go_ret
  exact ⟨rfl, (Keep.refl _ _).alloc _⟩
set_option maxRecDepth 100000 in
theorem zlen : Calls Tryd.prog 29 #[p] w fun e w' => e = .returned (.int .i64 0) ∧ w' = w := by
  have HZ : Hid (Zp w p) := h
  clear h
  go_enter Tryd.func29, Tryd.ntmps29
  go_wp2_with (go_at_call 58; refine (znone _ p HZ.out).mono ?_; rintro e w1 ⟨rfl, h1⟩; replace h1 := h1.symm; subst h1)
  go_ret
  exact ⟨rfl, rfl⟩
set_option maxRecDepth 100000 in
theorem zlost : Calls Tryd.prog 30 #[p] w fun e w' => e = .returned (.int .i64 0) ∧ w' = w := by
  have HZ : Hid (Zp w p) := h
  clear h
  go_enter Tryd.func30, Tryd.ntmps30
  go_wp2_with (go_at_call 58; refine (znone _ p HZ.out).mono ?_; rintro e w1 ⟨rfl, h1⟩; replace h1 := h1.symm; subst h1)
  go_ret
  exact ⟨rfl, rfl⟩
set_option maxRecDepth 100000 in
theorem zall : Calls Tryd.prog 24 #[p] w fun e w' => e = .returned (.slice none 0 0) ∧ w' = w := by
  have HZ : Hid (Zp w p) := h
  clear h
  go_enter Tryd.func24, Tryd.ntmps24
  go_wp2_with (go_at_call 58; refine (znone _ p HZ.out).mono ?_; rintro e w1 ⟨rfl, h1⟩; replace h1 := h1.symm; subst h1)
  go_ret
  exact ⟨rfl, rfl⟩
set_option maxRecDepth 100000 in
theorem zwants : Calls Tryd.prog 31 #[p, .slice none 0 0] w fun e w' => e = .returned (.slice none 0 0) ∧ w' = w := by
  have HZ : Hid (Zp w p) := h
  clear h
  go_enter Tryd.func31, Tryd.ntmps31
  go_wp2_with (go_at_call 58; refine (znone _ p HZ.out).mono ?_; rintro e w1 ⟨rfl, h1⟩; replace h1 := h1.symm; subst h1)
  go_ret
  exact ⟨rfl, rfl⟩
end
theorem tyP : St.Ty 58 3 #[.slice none 0 0, .int .i64 0, .bool false] := ⟨⟨_, Tryd.underlying58, rfl⟩, by kernel_rfl, rfl⟩
theorem at_call {P : Program} {f : Nat} {w : World} {Q : Ending → World → Prop} (args : Array Value) (h : Calls P f args w Q) : Calls P f args w Q := h
set_option maxRecDepth 100000 in
set_option maxHeartbeats 8000000 in
theorem walk (G : Int) (T : ByteArray) (A Q Z : Int) (m : List UInt8) (a : Option Addr) (n c : Nat) (l : List (List UInt8)) (u : List UInt8) (w : World) (hT : Sha.TabF w ∧ Sha.TabK w) (hm : m.length = 32) (h1 : At w a n l) (hTz : T.size ≤ maxLen) (hu : u.length = 32) :
    Calls Tryd.prog 8 #[.agg (hd (.slice a n c) G T A Q Z m).toArray, idv u] w fun e w' => e = .returned (.bool true) ∧ Below w.heap.size w w' := by
  have HM : Hid (M (fun _ => False) w _ [blk w.heap.size (.cells (hd (.slice a n c) G T A Q Z m).toArray 29), blk (w.heap.size + 1) (.cells (u.map bv).toArray 23)]) := ((M.start _ w).alloc (.cells (hd (.slice a n c) G T A Q Z m).toArray 29) rfl).alloc (.cells (u.map bv).toArray 23) (by simp)
  obtain ⟨g0, g1, g2, g3, g4, g5⟩ := (h_at HM.out 0 rfl rfl hm).cells
  generalize hX : (hd (.slice a n c) G T A Q Z m).toArray = X at HM g0 g1 g2 g3 g4 g5 ⊢
  have HX : Hid ((hd (.slice a n c) G T A Q Z m).toArray = X) := hX
  have HF : Hid (Sha.TabF w) := hT.1
  have HK : Hid (Sha.TabK w) := hT.2
  have Hr : Hid (m.length = 32) := hm
  have Lu : Hid (u.length = 32) := hu
  have hm1 := h1.most
  unfold maxLen at hm1 hTz
  have HZ : Hid ((Z32.map bv).toArray.size = 32) := (rfl : _ = _)
  clear hX hT hm h1 hu
  by_cases hgo : n ≤ 20 ∧ T.size ≤ 100
  · obtain ⟨h60, h61⟩ := hgo
    go_enter Tryd.func8, Tryd.ntmps8
    go_wp2_with (first | ((with_reducible refine at_load 29 ?_); refine St.wl_load tyH (by rfl) rfl rfl (h_at HM.out 0 rfl HX.out Hr.out).all (hd_len _ _ _ _ _ _ _ Hr.out) ?_; simp only [Act.put, List.setIfInBounds_toArray, List.set_cons_zero, List.set_cons_succ]) | (refine St.wl_alloc tyP rfl rfl (by (try simp only [World.size_alloc]); rfl) ?_; have HM : Hid _ := HM.out.alloc zc (b := w.heap.size + 1 + 1) (by simp); simp only [Act.put, List.setIfInBounds_toArray, List.set_cons_zero, List.set_cons_succ]) | ((with_reducible refine at_call #[.pointer none, .agg (hd (.slice a n c) G T A Q Z m).toArray, .int .i64 1] ?_); go_at_call 25; refine (zput _ (.pointer none) (.inl rfl) _ 1).mono ?_; rintro e w1 ⟨rfl, k1⟩; have HM : Hid _ := HM.out.calm k1; clear k1) | (refine St.wl_alloc tyI rfl rfl (by (try simp only [World.size_alloc]); rfl) ?_; simp only [Act.put, List.setIfInBounds_toArray, List.set_cons_zero, List.set_cons_succ]) | (refine St.wl_storeN (W := w2) tyI rfl rfl rfl rfl rfl (by (try simp only [World.size_alloc])) (show _ = Value.agg (Z32.map bv).toArray from rfl) HZ.out rfl (one_bv _) ?_; have HM : Hid _ := HM.out.alloc (.cells (Z32.map bv).toArray 23) rfl) | (refine St.wl_storeN (W := w1) tyI rfl rfl rfl rfl rfl (by (try simp only [World.size_alloc])) (show _ = Value.agg (Z32.map bv).toArray from rfl) HZ.out rfl (one_bv _) ?_; have HM : Hid _ := HM.out.alloc (.cells (Z32.map bv).toArray 23) rfl) | (go_at_call 25; refine (zput _ (.pointer (some ⟨w.heap.size + 1 + 1, 0, none⟩)) (.inr ⟨_, rfl, HM.out.get 2 rfl⟩) _ 1).mono ?_; rintro e w2 ⟨rfl, k1⟩; have HM : Hid _ := HM.out.calm k1; clear k1) | ((with_reducible refine at_call #[.pointer none, .slice none 0 0] ?_); go_at_call 27; refine (ztake _ (.pointer none) (.inl rfl)).mono ?_; rintro e w3 ⟨rfl, k1⟩; have HM : Hid _ := HM.out.calm k1; clear k1) | (refine St.wl_alloc tyH rfl rfl (by (try simp only [World.size_alloc]); rfl) ?_; simp only [Act.put, List.setIfInBounds_toArray, List.set_cons_zero, List.set_cons_succ]) | (refine St.wl_storeN (W := w4) tyH rfl rfl rfl rfl rfl (by (try simp only [World.size_alloc])) (show _ = Value.agg hz0 from rfl) rfl rfl (hd_one _ _ _ _ _ _ _ _ _) ?_; have HM : Hid _ := HM.out.alloc (.cells hz0 29) rfl) | (refine St.wl_storeN (W := w3) tyH rfl rfl rfl rfl rfl (by (try simp only [World.size_alloc])) (show _ = Value.agg hz0 from rfl) rfl rfl (hd_one _ _ _ _ _ _ _ _ _) ?_; have HM : Hid _ := HM.out.alloc (.cells hz0 29) rfl) | (go_at_call 27; refine (ztake _ (.pointer (some ⟨w.heap.size + 1 + 1, 0, none⟩)) (.inr ⟨_, rfl, HM.out.get 2 rfl⟩)).mono ?_; rintro e w4 ⟨rfl, k1⟩; have HM : Hid _ := HM.out.calm k1; clear k1) | ((with_reducible refine at_load 23 ?_); refine wl_loadG (by rfl) rfl rfl Lu.out (HM.out.range 1 rfl) ?_; simp only [Act.put, List.setIfInBounds_toArray, List.set_cons_zero, List.set_cons_succ]) | ((with_reducible refine at_call #[.pointer none, idv u] ?_); go_at_call 28; refine (zhas _ (.pointer none) (.inl rfl) u).mono ?_; rintro e w5 ⟨rfl, k1⟩; have HM : Hid _ := HM.out.calm k1; clear k1) | (go_at_call 28; refine (zhas _ (.pointer (some ⟨w.heap.size + 1 + 1, 0, none⟩)) (.inr ⟨_, rfl, HM.out.get 2 rfl⟩) u).mono ?_; rintro e w6 ⟨rfl, k1⟩; have HM : Hid _ := HM.out.calm k1; clear k1) | ((with_reducible refine at_call #[.pointer none] ?_); go_at_call 29; refine (zlen _ (.pointer none) (.inl rfl)).mono ?_; rintro e w7 ⟨rfl, rfl⟩) | (go_at_call 29; refine (zlen _ (.pointer (some ⟨w.heap.size + 1 + 1, 0, none⟩)) (.inr ⟨_, rfl, HM.out.get 2 rfl⟩)).mono ?_; rintro e w7 ⟨rfl, rfl⟩) | ((with_reducible refine at_call #[.pointer none] ?_); go_at_call 30; refine (zlost _ (.pointer none) (.inl rfl)).mono ?_; rintro e w7 ⟨rfl, rfl⟩) | (go_at_call 30; refine (zlost _ (.pointer (some ⟨w.heap.size + 1 + 1, 0, none⟩)) (.inr ⟨_, rfl, HM.out.get 2 rfl⟩)).mono ?_; rintro e w7 ⟨rfl, rfl⟩) | ((with_reducible refine at_call #[.pointer none] ?_); go_at_call 24; refine (zall _ (.pointer none) (.inl rfl)).mono ?_; rintro e w7 ⟨rfl, rfl⟩) | (go_at_call 24; refine (zall _ (.pointer (some ⟨w.heap.size + 1 + 1, 0, none⟩)) (.inr ⟨_, rfl, HM.out.get 2 rfl⟩)).mono ?_; rintro e w7 ⟨rfl, rfl⟩) | ((with_reducible refine at_call #[.pointer none, .slice none 0 0] ?_); go_at_call 31; refine (zwants _ (.pointer none) (.inl rfl)).mono ?_; rintro e w7 ⟨rfl, rfl⟩) | (go_at_call 31; refine (zwants _ (.pointer (some ⟨w.heap.size + 1 + 1, 0, none⟩)) (.inr ⟨_, rfl, HM.out.get 2 rfl⟩)).mono ?_; rintro e w7 ⟨rfl, rfl⟩) | (go_at_call 26; refine (pawake _ (HF.out.keep HM.out.keep (fun h => h)) (HK.out.keep HM.out.keep (fun h => h))).mono ?_; rintro e w9 ⟨rfl, k1⟩; have HM : Hid _ := HM.out.calm k1; clear k1))
    go_ret
    exact ⟨rfl, Keep.below HM.out.keep (Nat.le_refl _) (fun _ h => h.elim)⟩
  · have hgo' : 20 < n ∨ (n ≤ 20 ∧ 100 < T.size) := by omega
    clear hgo
    rcases hgo' with h | ⟨h, h'⟩
    all_goals
      go_enter Tryd.func8, Tryd.ntmps8
      go_wp2_with (first | (go_at_call 26; refine (pawake _ (HF.out.keep HM.out.keep (fun h => h)) (HK.out.keep HM.out.keep (fun h => h))).mono ?_; rintro e w9 ⟨rfl, k1⟩; have HM : Hid _ := HM.out.calm k1; clear k1))
      go_ret
      exact ⟨rfl, Keep.below HM.out.keep (Nat.le_refl _) (fun _ h => h.elim)⟩
set_option maxRecDepth 100000 in
theorem own : ownKnob Tryd.prog.godebug = none := by kernel_rfl
set_option maxRecDepth 100000 in
theorem laidOut : laidOutB Tryd.prog = true := by kernel_rfl
set_option maxRecDepth 100000 in
theorem contract (H : Type) (enc : TypeId × Value → H) (W : World) (base : Nat) (args : Array Value) (ds gs : List (DataW H)) (before : List MemPlace)
    (hval : ∀ (j : Nat) t v, Tryd.f8.params[j]? = some t → args[j]? = some v → Value.okWide Tryd.prog W .any base t v)
    (hW : DataW.Whole enc Tryd.prog Tryd.f8.params.toList Rows.penZeroSpec.vars false W args.toList ds gs before) (hL : laidMetH Tryd.prog Rows.penZeroRow.laid W) :
    Calls Tryd.prog 8 args W fun e W' => ∃ v, e = .returned v ∧ Rows.penZeroSpec.post enc Tryd.prog Tryd.f8 false true false false W args v W' := by
  have hW' := hW
  have hTab := Lad.sha_of hL
  obtain ⟨p, q, hA0, hV, rfl, hfz, hnd⟩ := hW
  have hA : DataW.TrodAll enc Tryd.prog W 0 (fun _ => true) true Tryd.f8.params.toList args.toList ds p := hA0
  rw [Tryd.params8] at hA hval
  obtain ⟨rfl, rfl⟩ := trodVars_none hV
  obtain ⟨v0, vs0, d0, ds0, p0, q0, hargs, rfl, rfl, h0, r0⟩ := trodAll_cons hA
  obtain ⟨v1, vs1, d1, ds1, p1, q1, rfl, rfl, rfl, h1, r1⟩ := trodAll_cons r0
  obtain ⟨rfl, rfl, rfl⟩ := trodAll_nil r1
  obtain rfl : args = #[v0, v1] := by cases args; simp_all
  obtain ⟨x, rfl, f0, _⟩ := Opn.open_st Tryd.underlying29 rdH (hval 0 _ v0 rfl rfl) h0
  obtain ⟨u, rfl, lu⟩ := Opn.open_id (hval 1 _ v1 rfl rfl) h1
  refine (walk x.2.1 x.2.2.1 x.2.2.2.1 x.2.2.2.2.1 x.2.2.2.2.2.1 x.2.2.2.2.2.2.1 x.1.a x.1.len x.1.cap x.1.els u W hTab f0.1 f0.2.1 f0.2.2.1 lu).mono fun e W' ⟨he, bel⟩ => ?_
  subst he
  exact ⟨_, rfl, Opn.law_post laidOut (by kernel_rfl) rfl Tryd.underlying4 rfl rfl hW' bel⟩
set_option maxRecDepth 100000 in
theorem lifted (os : Os) (started : os.Started) (H : Type) (enc : TypeId × Value → H) :
    ReturnsInHanded {} Tryd.checked os 8 .any (fun w args => (Rows.penZeroSpec.pre enc Tryd.prog Tryd.f8 [] false w args ∧ laidMetH Tryd.prog Rows.penZeroRow.laid w) ∧ sizedMet enc Tryd.prog Tryd.f8 (OpenSpec.ofChange Rows.penZeroSpec) false w args)
      (Rows.penZeroSpec.post enc Tryd.prog Tryd.f8 false true false false) := by
  refine returnsInHanded_of_change_and (C := Tryd.checked) (X := fun w _ => laidMetH Tryd.prog Rows.penZeroRow.laid w) (fun _ _ _ hh h => h.of_heap hh) own started (by kernel_rfl) Tryd.func8
    (ChangeSpec.witness_shaped (enc := enc) (C := Tryd.checked) (os := os) (X := fun w _ => laidMetH Tryd.prog Rows.penZeroRow.laid w) false (World.laidAll Tryd.prog os Rows.penZeroRow.laid) #[.agg hz0, idv (List.replicate 32 0)] 8 (World.laidAll_os _ _ _)
      (World.shaped_of_ZipB (by kernel_rfl) (by kernel_rfl)) (by kernel_rfl) (by kernel_rfl) (by kernel_rfl)
      (by rw [MakeChecks.laidMetH_plain _ _ _ (by kernel_rfl)]; exact laidMet_laidAll _ (by kernel_rfl) (by kernel_rfl))) ?_
  intro W base args ds gs before hval0 hW _ _ hL _
  exact contract H enc W base args ds gs before hval0 hW hL
theorem over : Rows.penZeroRow.holds Tryd.pinned (OpenSpec.ofChange Rows.penZeroSpec) :=
  OpenClaim.holds_of_wide 8 Tryd.f8 rfl rfl rfl rfl rfl rfl rfl ⟨rfl, rfl, rfl, rfl, rfl⟩ rfl rfl rfl rfl rfl (by kernel_rfl) Tryd.func8 (by kernel_rfl)
    (of_decide_eq_true (by kernel_rfl)) (by unfold Func.isWrapper; first | (rw [if_pos (by decide +kernel)]; kernel_rfl) | (rw [if_neg (by decide +kernel)]; exact ⟨rfl, rfl⟩))
    (fun os started H enc _ => lifted os started H enc)
theorem proved : Rows.PenZeroCardSaid :=
  Claim7.holds_tied_plain_at .later [] [.data, .data] true _ false over (fun _ h => by cases h) (by kernel_rfl) (fun _ h => by cases h) penZero_row_tie rfl ⟨rfl, rfl⟩ (by kernel_rfl) rfl
    (fun f fn hf hfn => by
      obtain rfl : f = 8 := Option.some.inj ((show Tryd.prog.funcNamed "petrel/petrellaw18.PenZero" = some 8 by kernel_rfl).symm.trans hf) |>.symm
      obtain rfl : fn = Tryd.f8 := (Option.some.inj (Tryd.func8.symm.trans hfn)).symm
      exact ⟨by kernel_rfl, fun j t ht => by
        rw [Tryd.params8] at ht
        have hm : t ∈ [29, 23] := by simpa using Array.mem_of_getElem? ht
        have hall : ([29, 23].all fun u => !Tryd.prog.wantsStandIn u) = true := by kernel_rfl
        exact (show Tryd.prog.wantsStandIn t = false by simpa using List.all_eq_true.1 hall t hm)⟩)
    (by kernel_rfl)
end PenZero
end Go.Proofs.YthdjbpimjbkajaaDoor
