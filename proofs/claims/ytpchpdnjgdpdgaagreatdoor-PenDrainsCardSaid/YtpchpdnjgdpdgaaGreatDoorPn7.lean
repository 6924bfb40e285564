/-
  The pen: Take.
-/
import Derived.Test.YtpchpdnjgdpdgaaGreatDoorPnB
import Derived.Test.YtpchpdnjgdpdgaaGreatDoorGSt
set_option linter.unusedVariables false
set_option linter.unusedSimpArgs false
namespace Go.Proofs.YtpchpdnjgdpdgaaGreatDoor
open Go.RowKit
namespace Pn
open Oct Ids Gn Hd
open Mem (M It blk ids rows)

set_option maxRecDepth 100000 in
theorem ihas (w : World) (a : Option Addr) (n c : Nat) (els : List (List UInt8)) (h : At w a n els) (hm : n ≤ 1000000) (hs : IdL.Srt els) (u : List UInt8) (hu : u.length = 32) (q : Bool) (hq : decide (u ∈ els) = q) :
    Calls Tryz.prog 99 #[.slice a n c, idv u] w fun e w' => e = .returned (.bool q) ∧ Keep (fun _ => False) w w' := by
  have R0 : Hid ((w.alloc (.cells (u.map bv).toArray 28)).rangeAt w.heap.size 0 (u.map bv)) := range_new w _ _
  have HC : Hid (Calls _ _ _ _ _) := psearch_set (w.alloc (.cells (u.map bv).toArray 28)) a n c els (h.calm ((Keep.refl _ _).alloc _)) hm hs u hu
  have Lu : Hid (u.length = 32) := hu
  rw [hq] at HC
  clear h hs hu hq
  go_enter Tryz.func99, Tryz.ntmps99
  go_wp2_with (first | ((with_reducible refine at_load 28 ?_); refine Ids.wl_load rfl rfl rfl Lu.out R0.out ?_; simp only [Act.put, List.setIfInBounds_toArray, List.set_cons_zero, List.set_cons_succ]) | (go_at_call 137; refine HC.out.mono ?_; rintro e w1 ⟨i, rfl, k1⟩; have K1 : Hid (Keep (fun _ => False) (w.alloc (.cells (u.map bv).toArray 28)) w1) := k1; clear k1))
  go_ret
  exact ⟨rfl, ((Keep.refl _ _).alloc _).trans K1.out⟩
theorem ihas_eg : ∀ args w, (callFunc 99 args).run Tryz.prog w = .ok (.enter 99 args) w := enters_of Tryz.func99 (by kernel_rfl) rfl
theorem iall_eg : ∀ args w, (callFunc 69 args).run Tryz.prog w = .ok (.enter 69 args) w := enters_of Tryz.func69 (by kernel_rfl) rfl
theorem all_take {p : List UInt8 → Bool} {l : List (List UInt8)} {k : Nat} {y : List UInt8} (hy : l[k]? = some y) (h : (l.take k).all p = true) (hp : p y = true) : (l.take (k + 1)).all p = true := by
  rw [List.take_add_one, hy, List.all_append, h]
  simp [hp]
theorem all_false {p : List UInt8 → Bool} {l : List (List UInt8)} {k : Nat} {y : List UInt8} (hy : l[k]? = some y) (hp : p y = false) : l.all p = false := by
  rw [List.all_eq_false]
  exact ⟨y, List.mem_of_getElem? hy, by simp [hp]⟩
set_option maxRecDepth 100000 in
set_option maxHeartbeats 2000000 in
theorem iall (w : World) (a : Option Addr) (n c : Nat) (els : List (List UInt8)) (h : At w a n els) (hm : n ≤ 1000000) (hs : IdL.Srt els) (x : Wt) (hx : At w x.a x.n x.l) (q : Bool) (hq : x.l.all (fun y => decide (y ∈ els)) = q) :
    Calls Tryz.prog 69 #[.slice a n c, .agg (we x).toArray] w fun e w' => e = .returned (.bool q) ∧ Keep (fun _ => False) w w' := by
  have HE : Hid (At w a n els) := h
  have HS : Hid (IdL.Srt els) := hs
  have HP : Hid (At w x.a x.n x.l) := hx
  have HQ : Hid _ := hq
  have HM : Hid (M (fun _ => False) w _ [blk w.heap.size (.cells (we x).toArray 71)]) := (M.start _ w).alloc (.cells (we x).toArray 71) rfl
  have c0 : (w.alloc (.cells (we x).toArray 71)).cell? ⟨w.heap.size, 0, none⟩ = some (.slice x.a x.n x.c) := wt_pv (HM.out.get 0 rfl)
  have hmost := hx.most
  unfold maxLen at hmost
  have eg := ihas_eg
  obtain ⟨nn, hnn⟩ : ∃ m, x.n = m := ⟨_, rfl⟩
  have HN : Hid (x.l.length = nn) := by show _ = _; rw [← hnn]; exact hx.len
  rw [hnn] at HP c0 hmost
  clear h hs hx hq hnn
  generalize (we x).toArray = X at HM c0 ⊢
  go_enter Tryz.func69, Tryz.ntmps69
  go_wp2
  go_loopw [14] (fun i wr => ∃ k : Nat, k ≤ nn ∧ i = .int .i64 k ∧ M (fun _ => False) w wr [blk w.heap.size (.cells X 71)] ∧ (x.l.take k).all (fun y => decide (y ∈ els)) = true) (fun i _ => nn - (intOf i).toNat)
  case atStart => exact ⟨0, Nat.zero_le _, rfl, HM.out, rfl⟩
  case round =>
    obtain ⟨k, hk, rfl, hM, hall⟩ := hrel
    have HM : Hid _ := hM
    have HA : Hid _ := hall
    clear hM hall
    by_cases hlt : k < nn
    · obtain ⟨y, hy⟩ : ∃ y, x.l[k]? = some y := ⟨_, List.getElem?_eq_getElem (by rw [HN.out]; omega)⟩
      obtain ⟨b1, o1, e1, hb1, hr1⟩ : ∃ b off, x.a = some ⟨b, off, none⟩ ∧ b < w.heap.size ∧ ∀ i z, x.l[i]? = some z → w.rangeAt b (off + i * 32) (z.map bv) := by rcases HP.out.lay with e | e; omega; exact e
      have R1 : Hid _ := HM.out.keep.range hb1 (fun h => h) (hr1 k y hy)
      have Ly : Hid (y.length = 32) := HP.out.size y (List.mem_of_getElem? hy)
      have Lym : Hid ((y.map bv).toArray.size = 32) := by show _ = _; rw [List.size_toArray, List.length_map]; exact Ly.out
      have Hy : Hid _ := hy
      obtain ⟨r, hr⟩ : ∃ r, decide (y ∈ els) = r := ⟨_, rfl⟩
      have Hh : Hid (∀ w1, Keep (fun _ => False) w w1 → Calls Tryz.prog 99 #[.slice a n c, idv y] w1 fun e w' => e = .returned (.bool r) ∧ Keep (fun _ => False) w1 w') := fun w1 k => ihas w1 a n c els (HE.out.calm k) hm HS.out y Ly.out r hr
      have Hr : Hid _ := hr
      rw [e1]
      clear hr1 hy hr e1
      cases r
      all_goals
        go_wp2_with (first | ((with_reducible refine at_load 28 ?_); first | (refine Ids.wl_load rfl rfl rfl Ly.out R1.out ?_; simp only [Act.put, List.setIfInBounds_toArray, List.set_cons_zero, List.set_cons_succ]) | (refine Ids.wl_load rfl rfl rfl Ly.out (HM.out.range 1 rfl) ?_; simp only [Act.put, List.setIfInBounds_toArray, List.set_cons_zero, List.set_cons_succ])) | (refine St.wl_alloc tyI rfl rfl (by (try simp only [World.size_alloc]); rfl) ?_; simp only [Act.put, List.setIfInBounds_toArray, List.set_cons_zero, List.set_cons_succ]) | (refine St.wl_storeN (W := wr) tyI rfl rfl rfl rfl rfl (by (try simp only [World.size_alloc])) (show _ = Value.agg (y.map bv).toArray from rfl) Lym.out rfl (one_bv _) ?_; have HM : Hid _ := HM.out.alloc (.cells (y.map bv).toArray 28) rfl) | (go_at_fn 99; refine (Hh.out _ HM.out.keep).mono ?_; rintro e w2 ⟨rfl, h2⟩; have HM : Hid _ := (HM.out.calm h2).take 1; clear h2))
      · go_ret
        exact ⟨by rw [← HQ.out, all_false Hy.out Hr.out]; rfl, HM.out.keep⟩
      · go_roundw
        case rel => exact ⟨k + 1, by omega, rfl, HM.out, all_take Hy.out HA.out Hr.out⟩
        case measure => simp [intOf]; omega
    · obtain rfl : k = nn := by omega
      have e : q = true := by rw [← HQ.out]; have := HA.out; rwa [List.take_of_length_le (by rw [HN.out]; exact Nat.le_refl _)] at this
      subst e
      go_wp2
      go_ret
      exact ⟨rfl, HM.out.keep⟩
theorem iallT (w0 : World) (a : Option Addr) (n c : Nat) (els : List (List UInt8)) (h : At w0 a n els) (hm : n ≤ 1000000) (hs : IdL.Srt els) (L : List Wt) (hL : ∀ x ∈ L, At w0 x.a x.n x.l) :
    W_Tells (fun _ => False) w0 69 #[.slice a n c] #[] L (fun x => x.l.all (fun y => decide (y ∈ els))) := fun w1 x hx k => iall w1 a n c els (h.calm k) hm hs x ((hL x hx).calm k) _ rfl
end Pn
end Go.Proofs.YtpchpdnjgdpdgaaGreatDoor
