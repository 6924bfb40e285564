/-
  The pen: Has, All, cut.
-/
import Derived.Test.YtdpkklinpbmkfaaGreatDoorPn2
set_option linter.unusedVariables false
set_option linter.unusedSimpArgs false
namespace Go.Proofs.YtdpkklinpbmkfaaGreatDoor
open Go.RowKit
namespace Pn
open Oct Ids Gn Hd
open Mem (M It blk ids rows)

set_option maxRecDepth 100000 in
theorem none_ok {w : World} {b : Nat} {v : Value} {L : List Wt} {lost : Int} (h : PenAt w b v L lost) : Calls Tryz.prog 53 #[.pointer (some ⟨b, 0, none⟩)] w fun e w' => e = .returned (.bool false) ∧ w' = w := by
  obtain ⟨c0, c1, c2⟩ := h.cells
  clear h
  go_enter Tryz.func53, Tryz.ntmps53
  go_wp2
  go_ret
  exact ⟨rfl, rfl⟩
theorem hasT (w0 : World) (ib : Nat) (u : List UInt8) (hu : u.length = 32) (hi : w0.heap[ib]? = some (.cells (u.map bv).toArray 28 (0, 0))) (L : List Wt) :
    W_Tells (fun _ => False) w0 65 #[] #[.pointer (some ⟨ib, 0, none⟩)] L (fun x => x.id == u) := fun w1 x _ k => has1 w1 x ib u hu (k.get hi (fun h => h))
theorem has1_eg : ∀ args w, (callFunc 65 args).run Tryz.prog w = .ok (.enter 65 args) w := enters_of Tryz.func65 (by kernel_rfl) rfl
set_option maxRecDepth 100000 in
theorem phas (w : World) (b : Nat) (v : Value) (L : List Wt) (lost : Int) (h : PenAt w b v L lost) (hl : L.length ≤ 1000000) (u : List UInt8) (hu : u.length = 32) (q : Bool) (hq : L.any (fun x => x.id == u) = q) :
    Calls Tryz.prog 26 #[.pointer (some ⟨b, 0, none⟩), idv u] w fun e w' => e = .returned (.bool q) ∧ Keep (fun _ => False) w w' := by
  have HP : Hid (PenAt (w.alloc (.cells (u.map bv).toArray 28)) b v L lost) := h.calm ((Keep.refl _ _).alloc _)
  obtain ⟨c0, c1, c2⟩ := HP.out.cells
  obtain ⟨a, c, e, hat⟩ := HP.out.row
  subst e
  have HC : Hid (Calls Tryz.prog 64 #[.slice a L.length c, .func (.func 65) #[] #[.pointer (some ⟨w.heap.size, 0, none⟩)]] (w.alloc (.cells (u.map bv).toArray 28)) fun e w' => e = .returned (.bool q) ∧ Keep (fun _ => False) (w.alloc (.cells (u.map bv).toArray 28)) w') :=
    W_contains _ a L.length c L hat hl _ #[] #[.pointer (some ⟨w.heap.size, 0, none⟩)] _ has1_eg (hasT _ w.heap.size u hu (heap_alloc_new w _) L) q hq
  have KA : Hid (Keep (fun _ => False) w (w.alloc (.cells (u.map bv).toArray 28))) := (Keep.refl _ _).alloc _
  clear h hu hq hat
  go_enter Tryz.func26, Tryz.ntmps26
  go_wp2_with (first | (go_at_call 53; refine (none_ok HP.out).mono ?_; rintro e w1 ⟨rfl, rfl⟩) | (go_at_call 64; refine HC.out.mono ?_; rintro e w2 ⟨rfl, k2⟩; have K2 : Hid _ := k2; clear k2))
  go_ret
  exact ⟨rfl, KA.out.trans K2.out⟩
set_option maxRecDepth 100000 in
set_option maxHeartbeats 1000000 in
theorem pall (w : World) (b : Nat) (v : Value) (L : List Wt) (lost : Int) (h : PenAt w b v L lost) (hl : L.length ≤ 100000) :
    Calls Tryz.prog 24 #[.pointer (some ⟨b, 0, none⟩)] w fun e w' => ∃ v', e = .returned v' ∧ New w w' v' (L.map (·.id)) := by
  have HP : Hid (PenAt w b v L lost) := h
  obtain ⟨c0, c1, c2⟩ := h.cells
  obtain ⟨a, c, e, hat⟩ := h.row
  subst e
  obtain ⟨n, hn⟩ : ∃ n, L.length = n := ⟨_, rfl⟩
  have HN : Hid (L.length = n) := hn
  rw [hn] at hat hl c0
  have HA : Hid (St.At 71 we w a n L) := hat
  have HM : Hid (M (fun _ => False) w w [ids (.slice none 0 0) []]) := (M.start _ w).nilI
  have HP0 : Hid (PenAt w b (.slice a n c) L lost) := by rw [← hn]; exact h
  clear h hat HP
  clear hn
  go_enter Tryz.func24, Tryz.ntmps24
  go_wp2_with (first | (go_at_call 53; refine (none_ok HP0.out).mono ?_; rintro e w1 ⟨rfl, h1⟩; replace h1 := h1.symm; subst h1))
  go_loopw [3, 13] (fun s3 i wr => ∃ (k : Nat) (v' : Value), k ≤ n ∧ i = .int .i64 k ∧ s3 = v' ∧ M (fun _ => False) w wr [ids v' ((L.map (·.id)).take k)]) (fun _ i _ => n - (intOf i).toNat)
  case atStart => exact ⟨0, _, Nat.zero_le _, rfl, rfl, HM.out⟩
  case round =>
    obtain ⟨k, v', hk, rfl, hv, hM⟩ := hrel
    replace hv := hv.symm
    subst hv
    have HM : Hid _ := hM
    clear hM
    by_cases hlt : k < n
    · obtain ⟨x, hx⟩ : ∃ x, L[k]? = some x := ⟨_, List.getElem?_eq_getElem (by rw [HN.out]; omega)⟩
      obtain ⟨b1, o1, rfl, hb1, hr1⟩ : ∃ b off, a = some ⟨b, off, none⟩ ∧ b < w.heap.size ∧ ∀ i x, L[i]? = some x → w.rangeAt b (off + i * 71) (we x) := by rcases HA.out.lay with e | e; omega; exact e
      have R1 : Hid _ := HM.out.keep.range hb1 (fun h => h) (hr1 k x hx)
      have Hx : Hid _ := hx
      have HL : Hid (((L.map (·.id)).take k).length ≤ 1000000) := by show _ ≤ _; rw [List.length_take]; omega
      clear hr1 hx
      go_wp2_with (first | ((with_reducible refine at_load 89 ?_); refine St.wl_load tyW (by rfl) rfl rfl R1.out (W_enc.len x) ?_; simp only [Act.put, List.setIfInBounds_toArray, List.set_cons_zero, List.set_cons_succ]) | (refine St.wl_alloc tyW rfl rfl (by (try simp only [World.size_alloc]); rfl) ?_; simp only [Act.put, List.setIfInBounds_toArray, List.set_cons_zero, List.set_cons_succ]) | (refine St.wl_storeN (W := wr) tyW rfl rfl rfl rfl rfl (by (try simp only [World.size_alloc])) (show _ = Value.agg (we x).toArray from rfl) (by rw [List.size_toArray]; exact W_enc.len x) rfl (W_enc.all x) ?_; have HM : Hid _ := HM.out.alloc (.cells (we x).toArray 89) rfl) | ((with_reducible refine at_load 28 ?_); refine Ids.wl_load rfl rfl rfl x.hid (wt_id (HM.out.get 1 rfl)) ?_; simp only [Act.put, List.setIfInBounds_toArray, List.set_cons_zero, List.set_cons_succ]) | (refine Ids.wl_build rfl rfl x.hid rfl ?_; have HM : Hid _ := HM.out.alloc (.cells (x.id.map bv).toArray 28) (by first | rfl | simp only [World.size_alloc]); simp only [Act.put, List.setIfInBounds_toArray, List.set_cons_zero, List.set_cons_succ]) | (refine Ids.wl_app1 rfl rfl rfl (HM.out.get 0 rfl) rfl x.hid (heap_alloc_new _ _) HL.out ?_; intro v3 w3 h1 k1 h3; have HM : Hid _ := (HM.out.appI 0 rfl h1 k1 h3).take 1; clear h1 k1 h3; simp only [Act.put, List.setIfInBounds_toArray, List.set_cons_zero, List.set_cons_succ]))
      go_roundw
      case rel => exact ⟨k + 1, _, by omega, rfl, rfl, by rw [List.take_add_one, List.getElem?_map, Hx.out]; exact HM.out⟩
      case measure => simp [intOf]; omega
    · obtain rfl : k = n := by omega
      go_wp2
      go_ret
      have e : (L.map (·.id)).take k = L.map (·.id) := List.take_of_length_le (by rw [List.length_map, HN.out]; exact Nat.le_refl _)
      rw [e] at HM
      exact ⟨_, rfl, HM.out.get 0 rfl, HM.out.keep, fun k hk => (HM.out.rng 0 _ rfl k hk).1.resolve_right (fun h => h)⟩
end Pn
end Go.Proofs.YtdpkklinpbmkfaaGreatDoor
