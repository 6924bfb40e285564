/-
  The pen: Wants.
-/
import Derived.Test.YtdpkklinpbmkfaaGreatDoorPn3
import Derived.Test.YtdpkklinpbmkfaaGreatDoorGIf
set_option linter.unusedVariables false
set_option linter.unusedSimpArgs false
namespace Go.Proofs.YtdpkklinpbmkfaaGreatDoor
open Go.RowKit
namespace Pn
open Oct Ids Gn Hd
open Mem (M It blk ids rows)
theorem at_callW {P : Program} {f : Nat} {w : World} {Q : Ending → World → Prop} (args : Array Value) (h : Calls P f args w Q) : Calls P f args w Q := h
theorem less_le (l m : List (List UInt8)) : (IdL.lessL l m).length ≤ l.length := by
  unfold IdL.lessL
  exact Nat.le_trans (List.length_filter_le _ _) (IdL.setL_len l)
theorem flat_le (L : List Wt) (h : ∀ x ∈ L, x.l.length ≤ 100) : (L.flatMap fun x : Wt => x.l).length ≤ 100 * L.length := by
  induction L with
  | nil => simp
  | cons x L ih =>
    rw [List.flatMap_cons, List.length_append, List.length_cons]
    have := ih (fun y hy => h y (List.mem_cons_of_mem _ hy))
    have := h x List.mem_cons_self
    omega
set_option maxRecDepth 100000 in
set_option maxHeartbeats 2000000 in
theorem pwants (w : World) (b : Nat) (v : Value) (L : List Wt) (lost : Int) (h : PenAt w b v L lost) (hl : L.length ≤ 900) (hp : ∀ x ∈ L, x.l.length ≤ 100) (ka : Option Addr) (kn kc : Nat) (kl : List (List UInt8)) (hk : At w ka kn kl) (hkm : kn ≤ 100000) :
    Calls Tryz.prog 27 #[.pointer (some ⟨b, 0, none⟩), .slice ka kn kc] w fun e w' => ∃ v', e = .returned v' ∧ New w w' v' (IdL.lessL (IdL.lessL (L.flatMap fun x : Wt => x.l) kl) (L.map fun x : Wt => x.id)) := by
  obtain ⟨c0, c1, c2⟩ := h.cells
  obtain ⟨a, c, e, hat⟩ := h.row
  subst e
  obtain ⟨n, hn⟩ : ∃ n, L.length = n := ⟨_, rfl⟩
  have HN : Hid (L.length = n) := hn
  have HP0 : Hid (PenAt w b (.slice a L.length c) L lost) := h
  have HPr : Hid (∀ x ∈ L, At w x.a x.n x.l) := h.par
  have HK : Hid (At w ka kn kl) := hk
  have hfl := flat_le L hp
  have HFl : Hid ((L.flatMap fun x : Wt => x.l).length ≤ 90000) := (by omega : (L.flatMap fun x : Wt => x.l).length ≤ 90000)
  have HPl : Hid (∀ x ∈ L, x.l.length ≤ 100) := hp
  have Hl9 : Hid (L.length ≤ 900) := hl
  rw [hn] at hat hl c0
  have HA : Hid (St.At 71 we w a n L) := hat
  have HM : Hid (M (fun _ => False) w w [ids (.slice none 0 0) []]) := (M.start _ w).nilI
  clear h hat hk hp hfl hn
  go_enter Tryz.func27, Tryz.ntmps27
  go_wp2_with (first | (go_at_call 53; refine (none_ok HP0.out).mono ?_; rintro e w1 ⟨rfl, h1⟩; replace h1 := h1.symm; subst h1))
  go_loopw [5, 15] (fun s5 i wr => ∃ (k : Nat) (v' : Value), k ≤ n ∧ i = .int .i64 k ∧ s5 = v' ∧ M (fun _ => False) w wr [ids v' ((L.take k).flatMap fun x : Wt => x.l)]) (fun _ i _ => n - (intOf i).toNat)
  case atStart => exact ⟨0, _, Nat.zero_le _, rfl, rfl, HM.out⟩
  case round =>
    obtain ⟨k, v', hk, rfl, hv, hM⟩ := hrel
    replace hv := hv.symm
    subst hv
    have HM : Hid _ := hM
    clear hM
    by_cases hlt : k < n
    · obtain ⟨x, hx⟩ : ∃ x, L[k]? = some x := ⟨_, List.getElem?_eq_getElem (by rw [HN.out]; omega)⟩
      obtain ⟨b1, o1, rfl, hb1, hr1⟩ : ∃ b off, a = some ⟨b, off, none⟩ ∧ b < w.heap.size ∧ ∀ i x, L[i]? = some x → w.rangeAt b (off + i * 71) (we x) := by rcases HA.out.lay with e | e; omega; exact e
      have R1 : Hid _ := HM.out.keep.range hb1 (fun h => h) (hr1 k x hx)
      have Hx : Hid _ := hx
      have AX : Hid (At w x.a x.n x.l) := HPr.out x (List.mem_of_getElem? hx)
      have HL : Hid (((L.take k).flatMap fun x : Wt => x.l).length + x.n ≤ 1000000) := by
        show _ ≤ _
        have e1 := flat_le (L.take k) (fun y hy => HPl.out y (List.mem_of_mem_take hy))
        rw [List.length_take] at e1
        have e2 := HPl.out x (List.mem_of_getElem? hx)
        have e3 := AX.out.len
        have e4 := Hl9.out
        omega
      clear hr1 hx
      go_wp2_with (first | ((with_reducible refine at_load 89 ?_); refine St.wl_load tyW (by rfl) rfl rfl R1.out (W_enc.len x) ?_; simp only [Act.put, List.setIfInBounds_toArray, List.set_cons_zero, List.set_cons_succ]) | (refine St.wl_alloc tyW rfl rfl (by (try simp only [World.size_alloc]); rfl) ?_; simp only [Act.put, List.setIfInBounds_toArray, List.set_cons_zero, List.set_cons_succ]) | (refine St.wl_storeN (W := wr) tyW rfl rfl rfl rfl rfl (by (try simp only [World.size_alloc])) (show _ = Value.agg (we x).toArray from rfl) (by rw [List.size_toArray]; exact W_enc.len x) rfl (W_enc.all x) ?_; have HM : Hid _ := HM.out.alloc (.cells (we x).toArray 89) rfl; have cpv := wt_pv (HM.out.get 1 rfl)) | (refine Ids.wl_appR rfl rfl rfl (HM.out.get 0 rfl) rfl (AX.out.calm HM.out.keep) HL.out ?_; intro v3 w3 h1 k1 h3; have HM : Hid _ := (HM.out.appI 0 rfl h1 k1 h3).take 1; clear h1 k1 h3; simp only [Act.put, List.setIfInBounds_toArray, List.set_cons_zero, List.set_cons_succ]))
      go_roundw
      case rel => exact ⟨k + 1, _, by omega, rfl, rfl, by rw [List.take_add_one, Hx.out, List.flatMap_append, Option.toList_some, List.flatMap_cons, List.flatMap_nil, List.append_nil]; exact HM.out⟩
      case measure => simp [intOf]; omega
    · obtain rfl : k = n := by omega
      have e : L.take k = L := List.take_of_length_le (by rw [HN.out]; exact Nat.le_refl _)
      rw [e] at HM
      clear e
      obtain ⟨F, hF⟩ : ∃ F, (L.flatMap fun x : Wt => x.l) = F := ⟨_, rfl⟩
      rw [hF] at HM HFl
      have HFe : Hid _ := hF
      clear hF
      obtain ⟨a1, c1', e1, at1, _⟩ := (show Own _ _ _ from HM.out.get 0 rfl).at
      subst e1
      have B1 : Hid _ := at1
      have hlm : Hid ((L.map fun x : Wt => x.id).length ≤ 100000) := by show _ ≤ _; rw [List.length_map]; have := Hl9.out; omega
      clear at1
      go_wp2_with (first | ((with_reducible refine at_callW #[.slice a1 F.length c1', .slice ka kn kc] ?_); go_at_call 66; refine (less_any _ a1 ka _ c1' kn kc F kl B1.out (HK.out.calm HM.out.keep) (by have := HFl.out; omega) (by omega)).mono ?_; rintro e w3 ⟨v3, rfl, n3⟩; obtain ⟨a3, c3, e3, at3, _⟩ := n3.1.at; subst e3; have K3 : Hid (Keep (fun _ => False) w w3) := HM.out.keep.trans n3.2.1; have B3 : Hid _ := at3; have N3 : Hid _ := n3; clear n3 at3) | (go_at_call 24; refine (pall _ b _ L lost (HP0.out.calm K3.out) (by have := Hl9.out; omega)).mono ?_; rintro e w4 ⟨v4, rfl, n4⟩; obtain ⟨a4, c4, e4, at4, _⟩ := n4.1.at; rw [List.length_map] at e4 at4; subst e4; have K4 : Hid (Keep (fun _ => False) w w4) := K3.out.trans n4.2.1; have B4 : Hid _ := at4; have B3 : Hid _ := B3.out.calm n4.2.1; clear n4 at4) | (go_at_call 66; refine (less_any w4 a3 a4 (IdL.lessL F kl).length c3 L.length c4 (IdL.lessL F kl) (L.map fun x : Wt => x.id) B3.out B4.out (by have := less_le F kl; have := HFl.out; omega) (by have := Hl9.out; omega)).mono ?_; rintro e w5 ⟨v5, rfl, n5⟩; have N5 : Hid _ := n5.from K4.out; clear n5))
      go_ret
      rw [HFe.out]
      exact ⟨_, rfl, N5.out⟩
end Pn
end Go.Proofs.YtdpkklinpbmkfaaGreatDoor
