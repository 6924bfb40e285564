/-
  dag: the heads of one header; petrellaw16's awake.
-/
import Derived.Test.YthllhjdaknmlbaaDoorDz5
set_option linter.unusedVariables false
set_option linter.unusedSimpArgs false
namespace Go.Proofs.YthllhjdaknmlbaaDoor
open Go.RowKit
set_option linter.unusedSectionVars false
namespace Dz
open Oct Ids Mp Gn Hd Ru
open Mem (M It blk ids rows)
theorem get_nil (u : Wd) (z : Value) : (get ([] : List (Wd × Value)) u).getD z = z := rfl
section
variable {w0 : World} (w : World) (db b0 b1 b2 b3 : Nat) (H : List (Wd × Value)) (T : List (ByteArray × Value)) (C : List (Wd × Value)) (bx : Nat)
set_option maxRecDepth 100000 in
theorem heads1 (h : M (fun _ => False) w0 w (di db b0 b1 b2 b3 H [] T C ++ [blk bx (.cells #[.pointer (some ⟨db, 0, none⟩)] 30)])) (x : Wd) (hx : x.length = 32) :
    Calls Tryd.prog 24 #[idv x, .pointer (some ⟨bx, 0, none⟩)] w fun e w' => e = .returned (.bool false) ∧ Keep (fun _ => False) w w' := by
  have HU : Hid (x.length = 32) := hx
  have HM : Hid _ := h.alloc (.cells (x.map bv).toArray 24) rfl
  have HW : Hid (Keep (fun _ => False) w _) := (Keep.refl (fun _ => False) w).alloc (.cells (x.map bv).toArray 24)
  clear h hx
  go_enter Tryd.func24, Tryd.ntmps24
  go_wp2
  have HM : Hid _ := HM.out.drew
  have c0 := HM.out.cell 0 rfl 1 (v := .map (some b1)) rfl
  have c5 := HM.out.cell 5 rfl 0 (v := .pointer (some ⟨db, 0, none⟩)) rfl
  refine Txt.wp_region_text (fun _ => True) [1, 0, 0, 1, 1, 1, 0] (by kernel_rfl) (by kernel_rfl) trivial ?_
  (repeat (first | (refine Txt.tl_pure (v := ?_) (by rfl) ?_ ?_; rotate_left; (focus (intro _; go_simp; try with_reducible rfl)); simp only [Act.put, List.setIfInBounds_toArray, List.set_cons_zero, List.set_cons_succ]) | (refine Txt.tl_load (v := ?_) (by rfl) (by rfl) (by rfl) (by kernel_rfl) ?_ ?_; rotate_left; (focus assumption); simp only [Act.put, List.setIfInBounds_toArray, List.set_cons_zero, List.set_cons_succ]) | (refine Txt.tl_rowN (n := 32) (ty := 24) (by rfl) (by rfl) (by rfl) (HM.out.range 6 rfl) (by kernel_rfl) (by rw [List.length_map]; exact HU.out) ?_; simp only [Act.put, List.setIfInBounds_toArray, List.set_cons_zero, List.set_cons_succ]) | (refine Txt.tl_skip (by rfl) trivial ?_; simp only [Act.put, List.setIfInBounds_toArray, List.set_cons_zero, List.set_cons_succ])))
  refine Mp.tl_look idKey Tryd.underlying32 (by rfl) rfl rfl (HM.out.get 2 rfl) (zero_of (n := 1) (by kernel_rfl)) HU.out rfl (get_nil x (.bool false)) ?_
  simp only [Act.put, List.setIfInBounds_toArray, List.set_cons_zero, List.set_cons_succ]
  (repeat (first | (refine Txt.tl_pure (v := ?_) (by rfl) ?_ ?_; rotate_left; (focus (intro _; go_simp; try with_reducible rfl)); simp only [Act.put, List.setIfInBounds_toArray, List.set_cons_zero, List.set_cons_succ]) | (refine Txt.tl_load (v := ?_) (by rfl) (by rfl) (by rfl) (by kernel_rfl) ?_ ?_; rotate_left; (focus assumption); simp only [Act.put, List.setIfInBounds_toArray, List.set_cons_zero, List.set_cons_succ]) | (refine Txt.tl_rowN (n := 32) (ty := 24) (by rfl) (by rfl) (by rfl) (HM.out.range 6 rfl) (by kernel_rfl) (by rw [List.length_map]; exact HU.out) ?_; simp only [Act.put, List.setIfInBounds_toArray, List.set_cons_zero, List.set_cons_succ]) | (refine Txt.tl_skip (by rfl) trivial ?_; simp only [Act.put, List.setIfInBounds_toArray, List.set_cons_zero, List.set_cons_succ])))
  refine Txt.tl_nil ?_
  go_wp2
  go_ret
  exact ⟨rfl, HW.out.drew⟩
set_option maxRecDepth 100000 in
theorem del1 (a : Option Addr) (c : Nat) (u : Wd) (hat : At w a 1 [u]) (g : Nat) (bs ls : Array Value) (eg : ∀ args w, (callFunc g args).run Tryd.prog w = .ok (.enter g args) w) (hp : Tells (fun _ => False) w g bs ls (fun _ => false)) :
    Calls Tryd.prog 23 #[.slice a 1 c, .func (.func g) bs ls] w fun e w' => e = .returned (.slice a 1 c) ∧ Keep (fun _ => False) w w' := by
  have HI : Hid (Calls Tryd.prog 35 #[.slice a 1 c, .func (.func g) bs ls] w fun e w' => e = .returned (.int .i64 (-1)) ∧ Keep (fun _ => False) w w') := index_any w a 1 c [u] hat (by omega) g bs ls (fun _ => false) eg hp
  clear hat eg hp
  go_enter Tryd.func23, Tryd.ntmps23
  go_wp2_with (first | (go_at_call 35; refine HI.out.mono ?_; rintro e w1 ⟨rfl, k1⟩; have K1 : Hid _ := k1; clear k1))
  go_ret
  exact ⟨rfl, K1.out⟩
end
set_option maxRecDepth 100000 in
theorem dheads {w0 : World} (w : World) (db b0 b1 b2 b3 : Nat) (u : Wd) (hu : u.length = 32) (hv : Value) (T : List (ByteArray × Value)) (C : List (Wd × Value)) (h : M (fun _ => False) w0 w (di db b0 b1 b2 b3 [(u, hv)] [] T C)) :
    Calls Tryd.prog 11 #[.pointer (some ⟨db, 0, none⟩)] w fun e w' => ∃ a c, e = .returned (.slice a 1 c) ∧ M (fun _ => False) w0 w' (di db b0 b1 b2 b3 [(u, hv)] [] T C) := by
  obtain ⟨bx, hbx⟩ : ∃ bx, w.heap.size = bx := ⟨_, rfl⟩
  have HM : Hid _ := h.alloc (.cells #[.pointer (some ⟨db, 0, none⟩)] 30) hbx
  have HU : Hid (u.length = 32) := hu
  have c5 := HM.out.cell 5 rfl 0 (v := .pointer (some ⟨db, 0, none⟩)) rfl
  have eg : ∀ args w, (callFunc 24 args).run Tryd.prog w = .ok (.enter 24 args) w := enters_of Tryd.func24 (by kernel_rfl) rfl
  have HE : Hid _ := eg
  clear h hu eg
  go_enter Tryd.func11, Tryd.ntmps11
  go_wp2_with (first | (go_at_call 10; refine (dall _ db b0 b1 b2 b3 u HU.out hv T C bx _ HM.out).mono ?_; rintro e w1 ⟨a, c, rfl, hM⟩; have HM : Hid _ := hM; clear hM) | (go_at_call 23; refine (del1 _ a c u (own_idat (HM.out.get 6 rfl)) _ #[] #[.pointer (some ⟨bx, 0, none⟩)] HE.out (fun w1 x k hx => heads1 w1 db b0 b1 b2 b3 [(u, hv)] T C bx ((HM.out.calm k).take 6) x hx)).mono ?_; rintro e w2 ⟨rfl, k2⟩; have HM : Hid _ := HM.out.calm k2; clear k2))
  go_ret
  exact ⟨a, c, rfl, HM.out.take 5⟩
theorem get_one (u : Wd) (v : Value) : get [(u, v)] u = some v := by
  unfold Mp.get
  rw [show fnd u [(u, v)] 0 = some (0, v) by unfold fnd; exact if_pos rfl]
  rfl
theorem dhas1 {w0 : World} (w : World) (db b0 b1 b2 b3 : Nat) (u : Wd) (hu : u.length = 32) (hv : Array Value) (hs : hv.size = 38) (h1 : hv.all (·.oneCell') = true) (T : List (ByteArray × Value)) (C : List (Wd × Value)) (h : M (fun _ => False) w0 w (di db b0 b1 b2 b3 [(u, .agg hv)] [] T C)) :
    Calls Tryd.prog 8 #[.pointer (some ⟨db, 0, none⟩), idv u] w fun e w' => e = .returned (.bool true) ∧ Keep (fun _ => False) w w' := by
  have := dhas w db b0 b1 b2 b3 [(u, .agg hv)] [] T C h u hu (fun v e => by rw [get_one] at e; cases e; exact ⟨hv, rfl, hs, h1⟩)
  rw [get_one] at this
  exact this
set_option maxRecDepth 100000 in
set_option maxHeartbeats 2000000 in
theorem dawake (w : World) (hF : Sha.TabF w) (hK : Sha.TabK w) : Calls Tryd.prog 5 #[] w fun e w' => e = .returned (.bool true) ∧ Keep (fun _ => False) w w' := by
  have HF : Hid (Sha.TabF w) := hF
  have HK : Hid (Sha.TabK w) := hK
  generalize hX : h0 1 ca 0 1 1 Z32 = X
  have HX : Hid (h0 1 ca 0 1 1 Z32 = X) := hX
  clear hF hK hX
  go_enter Tryd.func5, Tryd.ntmps5
  go_wp2_with (first | (go_at_call 15; refine (dnew _).mono ?_; rintro e w1 ⟨db, b0, b1, b2, b3, rfl, hM⟩; have HM : Hid _ := hM; clear hM) | (refine St.wl_buildV (T := 26) (parts := #[(1, .const (.int .i64 1)), (2, .const (.string ⟨#[99, 97]⟩)), (4, .const (.int .i64 1)), (5, .const (.int .i64 1))]) rfl rfl (cs := X) (HX.out ▸ by kernel_rfl) ?_; simp only [Act.put, List.setIfInBounds_toArray, List.set_cons_zero, List.set_cons_succ]) | (go_at_call 6; refine (dadd _ db b0 b1 b2 b3 HM.out HF.out HK.out X HX.out).mono ?_; rintro e w2 ⟨u, hv, vt, vc, hul, rfl, hs, h1, hM⟩; have HM : Hid _ := hM; have HU : Hid _ := hul; have HU2 : Hid ((u.map bv).toArray.size = 32) := (by show _ = _; rw [List.size_toArray, List.length_map]; exact hul); have HS : Hid _ := hs; have H1 : Hid _ := h1; clear hM hul hs h1) | (refine St.wl_alloc tyI rfl rfl (by (try simp only [World.size_alloc]); rfl) ?_; simp only [Act.put, List.setIfInBounds_toArray, List.set_cons_zero, List.set_cons_succ]) | (refine St.wl_storeN (W := w2) tyI rfl rfl rfl rfl rfl (by (try simp only [World.size_alloc])) (show _ = Value.agg (u.map bv).toArray from rfl) HU2.out rfl (one_bv _) ?_; have HM : Hid _ := HM.out.alloc (.cells (u.map bv).toArray 24) rfl) | ((with_reducible refine at_load 24 ?_); refine wl_loadG (by rfl) rfl rfl HU.out (HM.out.range 5 rfl) ?_; simp only [Act.put, List.setIfInBounds_toArray, List.set_cons_zero, List.set_cons_succ]) | (go_at_call 8; refine (dhas1 _ db b0 b1 b2 b3 u HU.out hv HS.out H1.out [(ca, vt)] [(Z32, vc)] (HM.out.take 5)).mono ?_; rintro e w3 ⟨rfl, k3⟩; have HM : Hid _ := HM.out.calm k3; clear k3) | (go_at_call 9; refine (dlen _ db b0 b1 b2 b3 [(u, .agg hv)] [] [(ca, vt)] [(Z32, vc)] (HM.out.take 5)).mono ?_; rintro e w4 ⟨rfl, h4⟩; rw [h4]; clear h4) | (go_at_call 11; refine (dheads _ db b0 b1 b2 b3 u HU.out (.agg hv) [(ca, vt)] [(Z32, vc)] (HM.out.take 5)).mono ?_; rintro e w5 ⟨a5, c5, rfl, hM⟩; have HM : Hid _ := hM; clear hM))
  go_ret
  exact ⟨rfl, HM.out.keep⟩
end Dz
end Go.Proofs.YthllhjdaknmlbaaDoor
