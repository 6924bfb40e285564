/-
  msg.Put and petrelref09.Put.
-/
import Derived.Test.YthllhjdaknmlbaaMsg3
import Derived.Test.YthllhjdaknmlbaaGId
set_option linter.unusedVariables false
set_option linter.unusedSimpArgs false
namespace Go.Proofs.Ythllhjdaknmlbaa
open Go.RowKit
namespace Ms
open Oct Ids

/-- The bytes of a message. -/
def enc (K : Int) (n : Nat) (B : ByteArray) (l : List (List UInt8)) : List UInt8 := if knd K = 1 then be 1 K ++ (be 1 n ++ l.flatten) else be 1 K ++ (be 2 B.size ++ B.data.toList)
theorem arr_app (l m : List UInt8) : (⟨(l ++ m).toArray⟩ : ByteArray) = ⟨l.toArray⟩ ++ ⟨m.toArray⟩ := by
  apply ByteArray.ext
  simp [ByteArray.data_append]
theorem arr_size (l : List UInt8) : (⟨l.toArray⟩ : ByteArray).size = l.length := by show l.toArray.size = _; simp
theorem arr_back (B : ByteArray) : (⟨B.data.toList.toArray⟩ : ByteArray) = B := by apply ByteArray.ext; simp
theorem knd_rng {K : Int} (h : knd K ≠ 0) : 1 ≤ K ∧ K ≤ 8 := by
  unfold knd at h
  split at h
  · omega
  · split at h <;> omega
theorem chk_ids {K : Int} {n : Nat} {B : ByteArray} (hc : chk K n B = 0) (hk : knd K = 1) : n ≤ 16 ∧ B.size = 0 := by
  by_cases hb : B.size = 0
  · by_cases hn : n ≤ 16
    · exact ⟨hn, hb⟩
    · rw [chk_1n hk hb (by omega)] at hc; omega
  · rw [chk_1b hk hb] at hc; omega
theorem chk_body {K : Int} {n : Nat} {B : ByteArray} (hc : chk K n B = 0) (hk : knd K = 2) : n = 0 ∧ B.size ≤ 512 ∧ B.size ≠ 0 := by
  by_cases hn : n = 0
  · by_cases hb : mst K < (B.size : Int)
    · rw [chk_2l hk hn hb] at hc; omega
    · by_cases hz : B.size = 0
      · rw [chk_2z hk hn hz] at hc; omega
      · have := mst_le K; exact ⟨hn, by omega, hz⟩
  · rw [chk_2n hk hn] at hc; omega
theorem mcells {w : World} {b : Nat} {K : Int} {v : Value} {B : ByteArray} (h : w.heap[b]? = some (.cells #[.int .i64 K, v, .string B] 28 (0, 0))) :
    w.cell? ⟨b, 0, none⟩ = some (.int .i64 K) ∧ w.cell? ⟨b, 1, none⟩ = some v ∧ w.cell? ⟨b, 2, none⟩ = some (.string B) :=
  ⟨by rw [cell_of h]; rfl, by rw [cell_of h]; rfl, by rw [cell_of h]; rfl⟩
set_option maxRecDepth 100000 in
theorem put_bad (w : World) (K : Int) (a : Option Addr) (n c : Nat) (B : ByteArray) (hc : chk K n B ≠ 0) :
    Calls Try.prog 9 #[.agg #[.int .i64 K, .slice a n c, .string B]] w fun e w' => e = .returned (.tuple #[.string ByteArray.empty, .int .i64 (chk K n B)]) ∧ Keep (fun _ => False) w w' := by
  have hc' : (chk K n B != 0) = true := by simpa using hc
  generalize hv : chk K n B = v at *
  have Hv : Hid _ := hv
  clear hv hc
  go_enter Try.func9, Try.ntmps9
  go_wp2_with (first | (go_at_call 8; refine (check_any _ _ _ _ _ _).mono ?_; rw [Hv.out]; rintro e w1 ⟨rfl, k1⟩; have K1 : Hid _ := k1; clear k1))
  go_ret2
  exact ⟨rfl, ((Keep.refl _ _).alloc _).trans K1.out⟩
end Ms
end Go.Proofs.Ythllhjdaknmlbaa
