/-
  The door 'awake' of petrellaw18.
-/
import Derived.Test.YtpchpdnjgdpdgaaGreatDoorPn8
set_option linter.unusedVariables false
set_option linter.unusedSimpArgs false
namespace Go.Proofs.YtpchpdnjgdpdgaaGreatDoor
open Go.RowKit
namespace Pn
open Oct Ids Gn Hd
open Mem (M It blk ids rows)

theorem paw_put (w : World) (hF : Sha.TabF w) (hK : Sha.TabK w) (b : Nat) (h : PenAt w b (.slice none 0 0) [] 0) (X : Array Value) (hX : (hd (.slice none 0 0) 1 ca 0 1 1 Z32).toArray = X) :
    Calls Tryz.prog 9 #[.pointer (some ⟨b, 0, none⟩), .agg X, .int .i64 3] w fun e w' => e = .returned (.tuple #[idv Z32, .bool false, .int .i64 0]) ∧ ∃ x v', x.l = [] ∧ x.T = ca ∧ x.fr = 3 ∧ PenTo w w' b (.slice none 0 0) [] v' [x] 0 := by
  subst hX
  refine (put_new w hF hK b _ [] 0 h (by simp) none 0 0 [] 1 ca 0 1 1 Z32 3 (nil_at w) rfl (by omega) (by unfold maxLen; exact Nat.le_trans (by decide : ca.size ≤ 2) (by omega)) awck rfl ⟨by omega, by omega⟩).mono fun e w' hh => ?_
  obtain ⟨x, v', _, x2, _, x4, _, _, _, _, x9, _, hc⟩ := hh
  rcases hc with ⟨_, he, ht⟩ | ⟨h8, _⟩
  · exact ⟨he, x, v', x2, x4, x9, ht⟩
  · simp at h8
theorem paw_take (w : World) (b : Nat) (v : Value) (x : Wt) (h : PenAt w b v [x] 0) (hx : x.l = []) :
    Calls Tryz.prog 35 #[.pointer (some ⟨b, 0, none⟩), .slice none 0 0] w fun e w' => e = .returned (.tuple #[.agg (hv x).toArray, .int .i64 x.fr, .bool true]) ∧ ∃ v', PenTo w w' b v [x] v' [] 0 := by
  refine (ptake_some w b v [x] 0 h (by simp) none 0 0 [] (nil_at w) (by omega) 0 x rfl (by unfold rdy; rw [hx]; rfl) (fun j y hj => absurd hj (Nat.not_lt_zero _))).mono fun e w' hh => ?_
  obtain ⟨h1, v', h2, _⟩ := hh
  exact ⟨h1, v', h2⟩
set_option maxRecDepth 100000 in
set_option maxHeartbeats 2000000 in
theorem pawake (w : World) (hF : Sha.TabF w) (hK : Sha.TabK w) : Calls Tryz.prog 7 #[] w fun e w' => e = .returned (.bool true) ∧ Keep (fun _ => False) w w' := by
  have HF : Hid (Sha.TabF w) := hF
  have HK : Hid (Sha.TabK w) := hK
  have HM : Hid (M (fun _ => False) w w []) := M.start _ w
  generalize hX : (hd (.slice none 0 0) 1 ca 0 1 1 Z32).toArray = X
  have HX : Hid ((hd (.slice none 0 0) 1 ca 0 1 1 Z32).toArray = X) := hX
  have HZ : Hid ((Z32.map bv).toArray.size = 32) := (rfl : _ = _)
  have hca : (ca.toList == ([99, 97] : List UInt8)) = true := by decide +kernel
  clear hF hK hX
  go_enter Tryz.func7, Tryz.ntmps7
  go_wp2_with (first | (go_at_call 8; refine (pnew _).mono ?_; rintro e w1 ⟨rfl, h1, k1⟩; have HM : Hid (M (fun _ => False) w w1 [penI w.heap.size (.slice none 0 0) [] 0]) := HM.out.add (x := penI w.heap.size (.slice none 0 0) [] 0) k1 h1 (fun k hk => by rcases hk with (hk | hk) | ⟨y, hy, _⟩; (have := lt_of_block h1.blk; omega); (simp [Value.ownBlock] at hk); (cases hy)); clear h1 k1) | (refine St.wl_buildV (T := 30) (parts := #[(1, .const (.int .i64 1)), (2, .const (.string ⟨#[99, 97]⟩)), (4, .const (.int .i64 1)), (5, .const (.int .i64 1))]) rfl rfl (cs := X) (HX.out ▸ by kernel_rfl) ?_; simp only [Act.put, List.setIfInBounds_toArray, List.set_cons_zero, List.set_cons_succ]) | (go_at_call 9; refine (paw_put _ (HF.out.keep HM.out.keep (fun h => h)) (HK.out.keep HM.out.keep (fun h => h)) _ (HM.out.get 0 rfl) X HX.out).mono ?_; rintro e w2 ⟨rfl, x, v2, xl, xT, xf, t2⟩; have HM : Hid _ := M.pen HM.out 0 rfl t2; have Xl : Hid _ := xl; have XT : Hid _ := xT; have Xf : Hid _ := xf; clear t2 xl xT xf) | (refine St.wl_alloc tyI rfl rfl (by (try simp only [World.size_alloc]); rfl) ?_; simp only [Act.put, List.setIfInBounds_toArray, List.set_cons_zero, List.set_cons_succ]) | (refine St.wl_storeN (W := w2) tyI rfl rfl rfl rfl rfl (by (try simp only [World.size_alloc])) (show _ = Value.agg (Z32.map bv).toArray from rfl) HZ.out rfl (one_bv _) ?_; have HM : Hid _ := HM.out.alloc (.cells (Z32.map bv).toArray 28) rfl) | (go_at_call 35; refine (paw_take _ _ v2 x (HM.out.get 0 rfl) Xl.out).mono ?_; rw [Xf.out]; rintro e w3 ⟨rfl, v3, t3⟩; have HM : Hid _ := M.pen HM.out 0 rfl t3; clear t3) | (refine St.wl_alloc tyH rfl rfl (by (try simp only [World.size_alloc]); rfl) ?_; simp only [Act.put, List.setIfInBounds_toArray, List.set_cons_zero, List.set_cons_succ]) | (refine St.wl_storeN (W := w3) tyH rfl rfl rfl rfl rfl (by (try simp only [World.size_alloc])) (show _ = Value.agg (hv x).toArray from rfl) (by rw [List.size_toArray]; exact hv_len x) rfl (hd_one _ _ _ _ _ _ _ _ _) ?_; have HM : Hid _ := HM.out.alloc (.cells (hv x).toArray 30) rfl; have c2 := HM.out.cell 2 rfl 2 (v := .string ca) (by rw [← XT.out]; rfl)) | (go_at_call 11; refine (plen _ _ v3 [] 0 (HM.out.get 0 rfl) (by simp)).mono ?_; rintro e w4 ⟨rfl, rfl⟩))
  go_ret
  exact ⟨rfl, HM.out.keep⟩
end Pn
end Go.Proofs.YtpchpdnjgdpdgaaGreatDoor
