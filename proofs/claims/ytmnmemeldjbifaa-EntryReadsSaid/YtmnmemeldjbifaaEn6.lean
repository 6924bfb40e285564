/-
  petrelref14.Put, of an entry that may be put.
-/
import Derived.Test.YtmnmemeldjbifaaEn5
import Derived.Test.YtmnmemeldjbifaaByt
import Derived.Test.YtmnmemeldjbifaaMem
import Derived.Test.YtmnmemeldjbifaaRdLaw
import Derived.Sort.AtCall
set_option linter.unusedVariables false
set_option linter.unusedSimpArgs false
namespace Go.Proofs.Ytmnmemeldjbifaa
open Go.RowKit
namespace En
open Oct Ids Ms OctW
open Mem (M blk byt)
open OctRd (be_len)
open Tp (tk)

set_option maxRecDepth 100000 in
set_option maxHeartbeats 2000000 in
theorem rput_ff (w : World) (K : Int) (T B : ByteArray) (c : List UInt8) (hc : c.length = 32) (hT : T.size ≤ 255) (hB : B.size ≤ 1048576) (h : ck K T B c = 0) (hr : 1 ≤ K ∧ K ≤ 7) (h1 : pT K = false) (h2 : pC K = false) :
    Calls Try.prog 22 #[.agg (ec K T B c).toArray] w fun e w' => e = .returned (.tuple #[.string ⟨(en K T B c).toArray⟩, .int .i64 0]) ∧ Keep (fun _ => False) w w' := by
  have Hk : Hid (∀ w, _) := fun w => rcheck_any w K T B c hc (by unfold maxLen; omega) (by unfold maxLen; omega)
  rw [h] at Hk
  have Hr : Hid (1 ≤ K ∧ K ≤ 7) := hr
  have hK1 : 1 ≤ K := hr.1
  have hK2 : K ≤ 7 := hr.2
  have Hh1 : Hid (hsHas K 84 = false) := h1
  have Hh2 : Hid (hsHas K 67 = false) := (show hsHas K 67 = pC K from rfl).trans h2
  have He : Hid (en K T B c = be 1 K ++ ((if false = true then be 1 T.size ++ T.data.toList else []) ++ ((if false = true then c else []) ++ B.data.toList))) := (by unfold en; rw [h1, h2] : en K T B c = be 1 K ++ ((if false = true then be 1 T.size ++ T.data.toList else []) ++ ((if false = true then c else []) ++ B.data.toList)))
  have E0 : Hid _ := EAt.new (K := K) (T := T) (B := B) w hc
  obtain ⟨g0, g1, g2⟩ := E0.out.cells
  have Hlc : Hid _ := hc
  obtain ⟨N1, hN1⟩ : ∃ N : ByteArray, (⟨(be 1 K).toArray⟩ : ByteArray) = N := ⟨_, rfl⟩
  obtain ⟨N2, hN2⟩ : ∃ N : ByteArray, (⟨(be 1 T.size).toArray⟩ : ByteArray) = N := ⟨_, rfl⟩
  have hz1 : N1.size = 1 := by rw [← hN1, Byt.arr_size, be_len]
  have hz2 : N2.size = 1 := by rw [← hN2, Byt.arr_size, be_len]
  have HN1 : Hid _ := hN1
  have HN2 : Hid _ := hN2
  clear h hc hN1 hN2 hr h1 h2
  go_enter Try.func22, Try.ntmps22
  go_wp2_with (first | (go_at_call 24; refine (Hk.out _).mono ?_; rintro e w1 ⟨rfl, k1⟩; have HK : Hid _ := ((Keep.refl (fun _ => False) w).alloc _).trans k1; have HE : Hid _ := E0.out.calm k1; clear k1; obtain ⟨g0, g1, g2⟩ := HE.out.cells) | (refine wl_loadE (by rfl) rfl rfl E0.out ?_; simp only [Act.put, List.setIfInBounds_toArray, List.set_cons_zero, List.set_cons_succ]) | (go_at_call 58; refine (has_any _ K Hr.out).mono ?_; rintro e w2 ⟨rfl, rfl⟩) | (go_at_call_has 59 (Value.int .u8 84); refine (in_any _ K 84 false Hr.out (by decide) Hh1.out).mono ?_; rintro e w3 ⟨rfl, rfl⟩) | (go_at_call_has 59 (Value.int .u8 67); refine (in_any _ K 67 false Hr.out (by decide) Hh2.out).mono ?_; rintro e w3 ⟨rfl, rfl⟩) | (go_at_call_has 50 (Value.int .i64 K); refine (Ref.num1 _ K (by omega) (by omega)).mono ?_; rw [HN1.out]; rintro e w4 ⟨rfl, k1⟩; have HK : Hid _ := HK.out.trans k1; have HE : Hid _ := HE.out.calm k1; clear k1; obtain ⟨g0, g1, g2⟩ := HE.out.cells) | (go_at_call_has 50 (Value.int .i64 T.size); refine (Ref.num1 _ T.size (by omega) (by omega)).mono ?_; rw [HN2.out]; rintro e w5 ⟨rfl, k1⟩; have HK : Hid _ := HK.out.trans k1; have HE : Hid _ := HE.out.calm k1; clear k1; obtain ⟨g0, g1, g2⟩ := HE.out.cells))
  go_ret2
  rw [He.out]
  have e : N1 ++ B = ⟨(be 1 K ++ ([] ++ ([] ++ B.data.toList))).toArray⟩ := by rw [← HN1.out]; apply ByteArray.ext; simp
  rw [e]
  exact ⟨rfl, HK.out⟩
set_option maxRecDepth 100000 in
set_option maxHeartbeats 2000000 in
theorem rput_tf (w : World) (K : Int) (T B : ByteArray) (c : List UInt8) (hc : c.length = 32) (hT : T.size ≤ 255) (hB : B.size ≤ 1048576) (h : ck K T B c = 0) (hr : 1 ≤ K ∧ K ≤ 7) (h1 : pT K = true) (h2 : pC K = false) :
    Calls Try.prog 22 #[.agg (ec K T B c).toArray] w fun e w' => e = .returned (.tuple #[.string ⟨(en K T B c).toArray⟩, .int .i64 0]) ∧ Keep (fun _ => False) w w' := by
  have Hk : Hid (∀ w, _) := fun w => rcheck_any w K T B c hc (by unfold maxLen; omega) (by unfold maxLen; omega)
  rw [h] at Hk
  have Hr : Hid (1 ≤ K ∧ K ≤ 7) := hr
  have hK1 : 1 ≤ K := hr.1
  have hK2 : K ≤ 7 := hr.2
  have Hh1 : Hid (hsHas K 84 = true) := h1
  have Hh2 : Hid (hsHas K 67 = false) := (show hsHas K 67 = pC K from rfl).trans h2
  have He : Hid (en K T B c = be 1 K ++ ((if true = true then be 1 T.size ++ T.data.toList else []) ++ ((if false = true then c else []) ++ B.data.toList))) := (by unfold en; rw [h1, h2] : en K T B c = be 1 K ++ ((if true = true then be 1 T.size ++ T.data.toList else []) ++ ((if false = true then c else []) ++ B.data.toList)))
  have E0 : Hid _ := EAt.new (K := K) (T := T) (B := B) w hc
  obtain ⟨g0, g1, g2⟩ := E0.out.cells
  have Hlc : Hid _ := hc
  obtain ⟨N1, hN1⟩ : ∃ N : ByteArray, (⟨(be 1 K).toArray⟩ : ByteArray) = N := ⟨_, rfl⟩
  obtain ⟨N2, hN2⟩ : ∃ N : ByteArray, (⟨(be 1 T.size).toArray⟩ : ByteArray) = N := ⟨_, rfl⟩
  have hz1 : N1.size = 1 := by rw [← hN1, Byt.arr_size, be_len]
  have hz2 : N2.size = 1 := by rw [← hN2, Byt.arr_size, be_len]
  have HN1 : Hid _ := hN1
  have HN2 : Hid _ := hN2
  clear h hc hN1 hN2 hr h1 h2
  go_enter Try.func22, Try.ntmps22
  go_wp2_with (first | (go_at_call 24; refine (Hk.out _).mono ?_; rintro e w1 ⟨rfl, k1⟩; have HK : Hid _ := ((Keep.refl (fun _ => False) w).alloc _).trans k1; have HE : Hid _ := E0.out.calm k1; clear k1; obtain ⟨g0, g1, g2⟩ := HE.out.cells) | (refine wl_loadE (by rfl) rfl rfl E0.out ?_; simp only [Act.put, List.setIfInBounds_toArray, List.set_cons_zero, List.set_cons_succ]) | (go_at_call 58; refine (has_any _ K Hr.out).mono ?_; rintro e w2 ⟨rfl, rfl⟩) | (go_at_call_has 59 (Value.int .u8 84); refine (in_any _ K 84 true Hr.out (by decide) Hh1.out).mono ?_; rintro e w3 ⟨rfl, rfl⟩) | (go_at_call_has 59 (Value.int .u8 67); refine (in_any _ K 67 false Hr.out (by decide) Hh2.out).mono ?_; rintro e w3 ⟨rfl, rfl⟩) | (go_at_call_has 50 (Value.int .i64 K); refine (Ref.num1 _ K (by omega) (by omega)).mono ?_; rw [HN1.out]; rintro e w4 ⟨rfl, k1⟩; have HK : Hid _ := HK.out.trans k1; have HE : Hid _ := HE.out.calm k1; clear k1; obtain ⟨g0, g1, g2⟩ := HE.out.cells) | (go_at_call_has 50 (Value.int .i64 T.size); refine (Ref.num1 _ T.size (by omega) (by omega)).mono ?_; rw [HN2.out]; rintro e w5 ⟨rfl, k1⟩; have HK : Hid _ := HK.out.trans k1; have HE : Hid _ := HE.out.calm k1; clear k1; obtain ⟨g0, g1, g2⟩ := HE.out.cells))
  go_ret2
  rw [He.out]
  have e : N1 ++ N2 ++ T ++ B = ⟨(be 1 K ++ ((be 1 T.size ++ T.data.toList) ++ ([] ++ B.data.toList))).toArray⟩ := by rw [← HN1.out, ← HN2.out]; apply ByteArray.ext; simp
  rw [e]
  exact ⟨rfl, HK.out⟩
set_option maxRecDepth 100000 in
set_option maxHeartbeats 2000000 in
theorem rput_ft (w : World) (K : Int) (T B : ByteArray) (c : List UInt8) (hc : c.length = 32) (hT : T.size ≤ 255) (hB : B.size ≤ 1048576) (h : ck K T B c = 0) (hr : 1 ≤ K ∧ K ≤ 7) (h1 : pT K = false) (h2 : pC K = true) :
    Calls Try.prog 22 #[.agg (ec K T B c).toArray] w fun e w' => e = .returned (.tuple #[.string ⟨(en K T B c).toArray⟩, .int .i64 0]) ∧ Keep (fun _ => False) w w' := by
  have Hk : Hid (∀ w, _) := fun w => rcheck_any w K T B c hc (by unfold maxLen; omega) (by unfold maxLen; omega)
  rw [h] at Hk
  have Hr : Hid (1 ≤ K ∧ K ≤ 7) := hr
  have hK1 : 1 ≤ K := hr.1
  have hK2 : K ≤ 7 := hr.2
  have Hh1 : Hid (hsHas K 84 = false) := h1
  have Hh2 : Hid (hsHas K 67 = true) := (show hsHas K 67 = pC K from rfl).trans h2
  have He : Hid (en K T B c = be 1 K ++ ((if false = true then be 1 T.size ++ T.data.toList else []) ++ ((if true = true then c else []) ++ B.data.toList))) := (by unfold en; rw [h1, h2] : en K T B c = be 1 K ++ ((if false = true then be 1 T.size ++ T.data.toList else []) ++ ((if true = true then c else []) ++ B.data.toList)))
  have E0 : Hid _ := EAt.new (K := K) (T := T) (B := B) w hc
  obtain ⟨g0, g1, g2⟩ := E0.out.cells
  have Hlc : Hid _ := hc
  obtain ⟨N1, hN1⟩ : ∃ N : ByteArray, (⟨(be 1 K).toArray⟩ : ByteArray) = N := ⟨_, rfl⟩
  obtain ⟨N2, hN2⟩ : ∃ N : ByteArray, (⟨(be 1 T.size).toArray⟩ : ByteArray) = N := ⟨_, rfl⟩
  have hz1 : N1.size = 1 := by rw [← hN1, Byt.arr_size, be_len]
  have hz2 : N2.size = 1 := by rw [← hN2, Byt.arr_size, be_len]
  have HN1 : Hid _ := hN1
  have HN2 : Hid _ := hN2
  clear h hc hN1 hN2 hr h1 h2
  go_enter Try.func22, Try.ntmps22
  go_wp2_with (first | (go_at_call 24; refine (Hk.out _).mono ?_; rintro e w1 ⟨rfl, k1⟩; have HK : Hid _ := ((Keep.refl (fun _ => False) w).alloc _).trans k1; have HE : Hid _ := E0.out.calm k1; clear k1; obtain ⟨g0, g1, g2⟩ := HE.out.cells) | (refine wl_loadE (by rfl) rfl rfl E0.out ?_; simp only [Act.put, List.setIfInBounds_toArray, List.set_cons_zero, List.set_cons_succ]) | (go_at_call 58; refine (has_any _ K Hr.out).mono ?_; rintro e w2 ⟨rfl, rfl⟩) | (go_at_call_has 59 (Value.int .u8 84); refine (in_any _ K 84 false Hr.out (by decide) Hh1.out).mono ?_; rintro e w3 ⟨rfl, rfl⟩) | (go_at_call_has 59 (Value.int .u8 67); refine (in_any _ K 67 true Hr.out (by decide) Hh2.out).mono ?_; rintro e w3 ⟨rfl, rfl⟩) | (go_at_call_has 50 (Value.int .i64 K); refine (Ref.num1 _ K (by omega) (by omega)).mono ?_; rw [HN1.out]; rintro e w4 ⟨rfl, k1⟩; have HK : Hid _ := HK.out.trans k1; have HE : Hid _ := HE.out.calm k1; clear k1; obtain ⟨g0, g1, g2⟩ := HE.out.cells) | (go_at_call_has 50 (Value.int .i64 T.size); refine (Ref.num1 _ T.size (by omega) (by omega)).mono ?_; rw [HN2.out]; rintro e w5 ⟨rfl, k1⟩; have HK : Hid _ := HK.out.trans k1; have HE : Hid _ := HE.out.calm k1; clear k1; obtain ⟨g0, g1, g2⟩ := HE.out.cells))
  have M0 : Hid (M (fun _ => False) w _ [blk w.heap.size (.cells (ec K T B c).toArray 43), byt (.slice none 0 0) []]) := ((M.start (fun _ => False) w).add (x := blk w.heap.size (.cells (ec K T B c).toArray 43)) HK.out HE.out.blk (fun k hk => by cases hk; exact ⟨Nat.le_refl _, lt_of_block HE.out.blk⟩)).nilB
  go_loopw [10, 11] (fun b i wr => ∃ (k : Nat) (v : Value), k ≤ 32 ∧ i = .int .i64 k ∧ b = v ∧ M (fun _ => False) w wr [blk w.heap.size (.cells (ec K T B c).toArray 43), byt v (c.take k)]) (fun _ i _ => 32 - (intOf i).toNat)
  case atStart => exact ⟨0, _, Nat.zero_le _, rfl, rfl, M0.out⟩
  case round =>
    obtain ⟨k, v, hk, rfl, hv, hM⟩ := hrel
    replace hv := hv.symm
    subst hv
    have HM : Hid _ := hM
    clear hM
    by_cases hlt : k < 32
    · obtain ⟨d, hd⟩ : ∃ d, c[k]? = some d := ⟨_, List.getElem?_eq_getElem (by rw [Hlc.out]; exact hlt)⟩
      have g4 : wr.cell? ⟨w.heap.size, 3 + k, none⟩ = some (.int .u8 (d.toNat : Int)) := HM.out.cell 0 rfl (3 + k) (by rw [List.getElem?_toArray]; unfold ec; rw [List.getElem?_append_right (by simp)]; simp [hd, bv])
      have Hd : Hid _ := hd
      clear hd
      go_wp2_with (first | (refine Byt.wl_app1 rfl rfl rfl ((HM.out.alloc _ rfl).get 1 rfl) rfl (heap_alloc_new _ _) (by simp; omega) ?_; intro v' w5 h1 k1 h3; have HM : Hid _ := (HM.out.alloc _ rfl).appB 1 rfl h1 k1 h3; clear h1 k1 h3; simp only [Act.put, List.setIfInBounds_toArray, List.set_cons_zero, List.set_cons_succ]))
      go_roundw
      case rel => exact ⟨k + 1, v', by omega, rfl, rfl, by rw [List.take_add_one, Hd.out]; exact HM.out.take 2⟩
      case measure => simp [intOf]; omega
    · obtain rfl : k = 32 := by omega
      obtain ⟨C, hC⟩ : ∃ C : ByteArray, (⟨(c.take 32).toArray⟩ : ByteArray) = C := ⟨_, rfl⟩
      have hcv := (HM.out.get 1 rfl).str
      rw [hC] at hcv
      have hz3 : C.size = 32 := by rw [← hC, Byt.arr_size, List.length_take, Hlc.out]; rfl
      have hC2 : (⟨c.toArray⟩ : ByteArray) = C := by rw [← hC, List.take_of_length_le (by rw [Hlc.out]; exact Nat.le_refl _)]
      have HC : Hid _ := hC2
      have g3 : wr.cell? ⟨w.heap.size, 2, none⟩ = some (.string B) := HM.out.cell 0 rfl 2 rfl
      clear hC hC2
      go_wp2
      go_ret2
      rw [He.out]
      have e : N1 ++ C ++ B = ⟨(be 1 K ++ ([] ++ (c ++ B.data.toList))).toArray⟩ := by rw [← HN1.out, ← HC.out]; apply ByteArray.ext; simp
      rw [e]
      exact ⟨rfl, HM.out.keep⟩
theorem rput_any (w : World) (K : Int) (T B : ByteArray) (c : List UInt8) (hc : c.length = 32) (hT : T.size ≤ maxLen) (hB : B.size ≤ maxLen) :
    Calls Try.prog 22 #[.agg (ec K T B c).toArray] w fun e w' => e = .returned (.tuple #[.string (pv K T B c), .int .i64 (ck K T B c)]) ∧ Keep (fun _ => False) w w' := by
  by_cases h : ck K T B c = 0
  · have e : pv K T B c = ⟨(en K T B c).toArray⟩ := by unfold pv; rw [if_pos h]
    obtain ⟨h1, h2, h3, h4⟩ := len_T h
    rw [e, h]
    rcases (by omega : K = 4 ∨ (K = 5 ∨ K = 6 ∨ K = 7) ∨ K = 1 ∨ K = 2 ∨ K = 3) with rfl | h5 | h5
    · exact rput_ft w 4 T B c hc h1 h2 h ⟨h3, h4⟩ (by decide) (by decide)
    · exact rput_tf w K T B c hc h1 h2 h ⟨h3, h4⟩ (decide_eq_true h5) (decide_eq_false (by omega))
    · exact rput_ff w K T B c hc h1 h2 h ⟨h3, h4⟩ (decide_eq_false (by omega)) (decide_eq_false (by omega))
  · have e : pv K T B c = ByteArray.empty := by unfold pv; rw [if_neg h]
    rw [e]
    exact rput_bad w K T B c hc hT hB h
end En
end Go.Proofs.Ytmnmemeldjbifaa
