/-
  msg.Put and petrelref09.Put.
-/
import Derived.Test.YtmnmemeldjbifaaMsg3
import Derived.Test.YtmnmemeldjbifaaIds2
namespace Go.Proofs.Ytmnmemeldjbifaa
open Go.RowKit
namespace Ms
open Oct Ids

/-- The bytes of a message. -/
def enc (K : Int) (n : Nat) (B : ByteArray) (l : List (List UInt8)) : List UInt8 := if knd K = 1 then be 1 K ++ (be 1 n ++ l.flatten) else be 1 K ++ (be 2 B.size ++ B.data.toList)
theorem arr_app (l m : List UInt8) : (⟨(l ++ m).toArray⟩ : ByteArray) = ⟨l.toArray⟩ ++ ⟨m.toArray⟩ := by
  apply ByteArray.ext
  simp [ByteArray.data_append]
theorem arr_size (l : List UInt8) : (⟨l.toArray⟩ : ByteArray).size = l.length := by show l.toArray.size = _; simp
theorem arr_back (B : ByteArray) : (⟨B.data.toList.toArray⟩ : ByteArray) = B := by apply ByteArray.ext; simp
theorem knd_rng {K : Int} (h : knd K ≠ 0) : 1 ≤ K ∧ K ≤ 8 := by
  unfold knd at h
  split at h
  · omega
  · split at h <;> omega
theorem chk_ids {K : Int} {n : Nat} {B : ByteArray} (hc : chk K n B = 0) (hk : knd K = 1) : n ≤ 16 ∧ B.size = 0 := by
  by_cases hb : B.size = 0
  · by_cases hn : n ≤ 16
    · exact ⟨hn, hb⟩
    · rw [chk_1n hk hb (by omega)] at hc; omega
  · rw [chk_1b hk hb] at hc; omega
theorem chk_body {K : Int} {n : Nat} {B : ByteArray} (hc : chk K n B = 0) (hk : knd K = 2) : n = 0 ∧ B.size ≤ 512 ∧ B.size ≠ 0 := by
  by_cases hn : n = 0
  · by_cases hb : mst K < (B.size : Int)
    · rw [chk_2l hk hn hb] at hc; omega
    · by_cases hz : B.size = 0
      · rw [chk_2z hk hn hz] at hc; omega
      · have := mst_le K; exact ⟨hn, by omega, hz⟩
  · rw [chk_2n hk hn] at hc; omega
theorem mcells {w : World} {b : Nat} {K : Int} {v : Value} {B : ByteArray} (h : w.heap[b]? = some (.cells #[.int .i64 K, v, .string B] 25 (0, 0))) :
    w.cell? ⟨b, 0, none⟩ = some (.int .i64 K) ∧ w.cell? ⟨b, 1, none⟩ = some v ∧ w.cell? ⟨b, 2, none⟩ = some (.string B) :=
  ⟨by rw [cell_of h]; rfl, by rw [cell_of h]; rfl, by rw [cell_of h]; rfl⟩
set_option maxRecDepth 100000 in
theorem rput_bad (w : World) (K : Int) (a : Option Addr) (n c : Nat) (B : ByteArray) (hc : chk K n B ≠ 0) :
    Calls Try.prog 16 #[.agg #[.int .i64 K, .slice a n c, .string B]] w fun e w' => e = .returned (.tuple #[.string ByteArray.empty, .int .i64 (chk K n B)]) ∧ Keep (fun _ => False) w w' := by
  have hc' : (chk K n B != 0) = true := by simpa using hc
  generalize hv : chk K n B = v at *
  have Hv : Hid _ := hv
  clear hv hc
  go_enter Try.func16, Try.ntmps16
  go_wp2_with (first | (go_at_call 18; refine (rcheck_any _ _ _ _ _ _).mono ?_; rw [Hv.out]; rintro e w1 ⟨rfl, k1⟩; have K1 : Hid _ := k1; clear k1))
  go_ret2
  exact ⟨rfl, ((Keep.refl _ _).alloc _).trans K1.out⟩
set_option maxRecDepth 100000 in
theorem put_bad (w : World) (K : Int) (a : Option Addr) (n c : Nat) (B : ByteArray) (hc : chk K n B ≠ 0) :
    Calls Try.prog 15 #[.agg #[.int .i64 K, .slice a n c, .string B]] w fun e w' => e = .returned (.tuple #[.string ByteArray.empty, .int .i64 (chk K n B)]) ∧ Keep (fun _ => False) w w' := by
  have hc' : (chk K n B != 0) = true := by simpa using hc
  generalize hv : chk K n B = v at *
  have Hv : Hid _ := hv
  clear hv hc
  go_enter Try.func15, Try.ntmps15
  go_wp2_with (first | (go_at_call 17; refine (check_any _ _ _ _ _ _).mono ?_; rw [Hv.out]; rintro e w1 ⟨rfl, k1⟩; have K1 : Hid _ := k1; clear k1))
  go_ret2
  exact ⟨rfl, ((Keep.refl _ _).alloc _).trans K1.out⟩
set_option maxRecDepth 100000 in
set_option maxHeartbeats 1000000 in
theorem rput_ok (w : World) (K : Int) (a : Option Addr) (n c : Nat) (B : ByteArray) (l : List (List UInt8)) (h : At w a n l) (hc : chk K n B = 0) :
    Calls Try.prog 16 #[.agg #[.int .i64 K, .slice a n c, .string B]] w fun e w' => e = .returned (.tuple #[.string ⟨(enc K n B l).toArray⟩, .int .i64 0]) ∧ Keep (fun _ => False) w w' := by
  rcases knd_or K with hk | hk | hk
  · rw [chk_0 hk] at hc; omega
  · have hn := chk_ids hc hk
    have hr := knd_rng (K := K) (by omega)
    have e : (⟨(enc K n B l).toArray⟩ : ByteArray) = ⟨(be 1 K).toArray⟩ ++ ⟨(be 1 n ++ l.flatten).toArray⟩ := by unfold enc; rw [if_pos hk, arr_app]
    have hz1 : (⟨(be 1 K).toArray⟩ : ByteArray).size = 1 := by rw [arr_size, OctRd.be_len]
    have hz2 : (⟨(be 1 n ++ l.flatten).toArray⟩ : ByteArray).size ≤ 600 := by rw [arr_size, List.length_append, OctRd.be_len, flat_len l h.size, h.len]; omega
    have H : Hid _ := h
    have Hc : Hid _ := hc
    have HB : Hid _ := heap_alloc_new w (.cells #[.int .i64 K, .slice a n c, .string B] 25)
    have Hk : Hid _ := hk
    rw [e]
    clear h hc hk e
    generalize hS : (⟨(be 1 n ++ l.flatten).toArray⟩ : ByteArray) = S at *
    generalize hT : (⟨(be 1 K).toArray⟩ : ByteArray) = T at *
    have HS : Hid _ := hS
    have HT : Hid _ := hT
    clear hS hT
    go_enter Try.func16, Try.ntmps16
    go_wp2_with (first | (go_at_call 18; refine (rcheck_any _ _ _ _ _ _).mono ?_; rw [Hc.out]; rintro e w1 ⟨rfl, k1⟩; have K1 : Hid _ := k1; have HB : Hid _ := k1.get HB.out (fun h => h); clear k1; obtain ⟨g0, g1, g2⟩ := mcells HB.out) | (go_at_call 40; refine (kind_any _ _).mono ?_; rw [Hk.out]; rintro e w1 ⟨rfl, rfl⟩) | (go_at_call 50; refine (Ref.num1 _ K (by omega) (by omega)).mono ?_; rw [HT.out]; rintro e w2 ⟨rfl, k1⟩; have K2 : Hid _ := k1; have HB : Hid _ := k1.get HB.out (fun h => h); clear k1; obtain ⟨g0, g1, g2⟩ := mcells HB.out) | (go_at_call 51; refine (ids_any _ _ _ _ l (((H.out.calm ((Keep.refl _ _).alloc _)).calm K1.out).calm K2.out) (by omega)).mono ?_; rw [HS.out]; rintro e w3 ⟨rfl, k1⟩; have K3 : Hid _ := k1; clear k1))
    go_ret2
    exact ⟨rfl, ((((Keep.refl _ _).alloc _).trans K1.out).trans K2.out).trans K3.out⟩
  · obtain ⟨rfl, hn⟩ := chk_body hc hk
    have hr := knd_rng (K := K) (by omega)
    have e : (⟨(enc K 0 B l).toArray⟩ : ByteArray) = ⟨(be 1 K).toArray⟩ ++ (⟨(be 2 B.size).toArray⟩ ++ B) := by unfold enc; rw [if_neg (by omega), arr_app, arr_app, arr_back]
    have hz1 : (⟨(be 1 K).toArray⟩ : ByteArray).size = 1 := by rw [arr_size, OctRd.be_len]
    have hz2 : (⟨(be 2 B.size).toArray⟩ ++ B : ByteArray).size ≤ 600 := by rw [ByteArray.size_append, arr_size, OctRd.be_len]; omega
    have ht : Ref.rt B = (⟨(be 2 B.size).toArray⟩ ++ B, 0) := by unfold Ref.rt; rw [if_neg (by omega)]
    have Hc : Hid _ := hc
    have HB : Hid _ := heap_alloc_new w (.cells #[.int .i64 K, .slice a 0 c, .string B] 25)
    have Hk : Hid _ := hk
    have Ht : Hid _ := ht
    rw [e]
    clear h hc hk e ht
    generalize hS : (⟨(be 2 B.size).toArray⟩ ++ B : ByteArray) = S at *
    generalize hT : (⟨(be 1 K).toArray⟩ : ByteArray) = T at *
    have HS : Hid _ := hS
    have HT : Hid _ := hT
    clear hS hT
    go_enter Try.func16, Try.ntmps16
    go_wp2_with (first | (go_at_call 18; refine (rcheck_any _ _ _ _ _ _).mono ?_; rw [Hc.out]; rintro e w1 ⟨rfl, k1⟩; have K1 : Hid _ := k1; have HB : Hid _ := k1.get HB.out (fun h => h); clear k1; obtain ⟨g0, g1, g2⟩ := mcells HB.out) | (go_at_call 40; refine (kind_any _ _).mono ?_; rw [Hk.out]; rintro e w1 ⟨rfl, rfl⟩) | (go_at_call 50; refine (Ref.num1 _ K (by omega) (by omega)).mono ?_; rw [HT.out]; rintro e w2 ⟨rfl, k1⟩; have K2 : Hid _ := k1; have HB : Hid _ := k1.get HB.out (fun h => h); clear k1; obtain ⟨g0, g1, g2⟩ := mcells HB.out) | (go_at_call 52; refine (Ref.text_any _ B (by unfold maxLen; omega)).mono ?_; rw [Ht.out]; rintro e w3 ⟨rfl, k1⟩; have K3 : Hid _ := k1; clear k1))
    go_ret2
    exact ⟨rfl, ((((Keep.refl _ _).alloc _).trans K1.out).trans K2.out).trans K3.out⟩
end Ms
end Go.Proofs.Ytmnmemeldjbifaa
