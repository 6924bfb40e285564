/-
  petrelref01.Ids.
-/
import Derived.Test.YtmnmemeldjbifaaIds1
import Derived.Test.YtmnmemeldjbifaaRdLaw
set_option linter.unusedVariables false
set_option linter.unusedSimpArgs false
namespace Go.Proofs.Ytmnmemeldjbifaa
open Go.RowKit
namespace Ids
open Oct Ref

theorem cat_byte (S : ByteArray) (l : List UInt8) (c : UInt8) (h : S.data.toList = l) : (S ++ (⟨#[c]⟩ : ByteArray)).data.toList = l ++ [c] := by
  rw [ByteArray.data_append, Array.toList_append, h]
theorem flat_len : ∀ (l : List (List UInt8)), (∀ x ∈ l, x.length = 32) → l.flatten.length = 32 * l.length
  | [], _ => rfl
  | x :: l, h => by
    rw [List.flatten_cons, List.length_append, h x (by simp), flat_len l (fun y hy => h y (by simp [hy])), List.length_cons]
    omega
theorem size_of {S : ByteArray} {l : List UInt8} (h : S.data.toList = l) : S.size = l.length := by rw [← h, Array.length_toList]; rfl
theorem flat_take (l : List (List UInt8)) (i : Nat) (hs : ∀ x ∈ l, x.length = 32) (hi : i ≤ l.length) : (l.take i).flatten.length = 32 * i := by
  rw [flat_len _ (fun x hx => hs x (List.mem_of_mem_take hx)), List.length_take, Nat.min_eq_left hi]
theorem take_flat (l : List (List UInt8)) (i : Nat) (x : List UInt8) (hx : l[i]? = some x) : (l.take (i + 1)).flatten = (l.take i).flatten ++ x := by
  rw [List.take_add_one, hx]
  simp
set_option maxRecDepth 100000 in
set_option maxHeartbeats 2000000 in
theorem ids_any (w : World) (a : Option Addr) (n c : Nat) (l : List (List UInt8)) (h : At w a n l) (hn : n < 256) :
    Calls Try.prog 51 #[.slice a n c] w fun e w' => e = .returned (.string ⟨(be 1 n ++ l.flatten).toArray⟩) ∧ Keep (fun _ => False) w w' := by
  have H : Hid _ := h
  clear h
  go_enter Try.func51, Try.ntmps51
  go_wp2_with (first | (go_at_call 50; refine (num1 _ n (by omega) (by omega)).mono ?_; rintro e w1 ⟨rfl, k1⟩; have K1 : Hid _ := k1; clear k1))
  go_loopw [3, 5] (fun o i wr => ∃ (k : Nat) (S : ByteArray), k ≤ n ∧ i = .int .i64 k ∧ o = .string S ∧ Keep (fun _ => False) w wr ∧ S.data.toList = be 1 n ++ (l.take k).flatten) (fun _ i _ => n - (intOf i).toNat)
  case atStart => exact ⟨0, _, Nat.zero_le _, rfl, rfl, K1.out, by simp⟩
  case round =>
    obtain ⟨k, S, hk, rfl, rfl, hkp, hS⟩ := hrel
    have HK : Hid _ := hkp
    have HS : Hid _ := hS
    clear hkp hS
    by_cases hlt : k < n
    · obtain ⟨x, hx⟩ : ∃ x, l[k]? = some x := ⟨_, List.getElem?_eq_getElem (by rw [H.out.len]; omega)⟩
      obtain ⟨b, off, rfl, hb, hr⟩ : ∃ b off, a = some ⟨b, off, none⟩ ∧ b < w.heap.size ∧ ∀ i x, l[i]? = some x → w.rangeAt b (off + i * 32) (x.map bv) := by rcases H.out.lay with e | e; omega; exact e
      have lx := H.out.size x (List.mem_of_getElem? hx)
      have Lx : Hid _ := lx
      have Hr : Hid _ := hr k x hx
      have Hx : Hid _ := hx
      have Hb : Hid _ := hb
      have Hsz : Hid _ := flat_take l k H.out.size (by rw [H.out.len]; omega)
      clear hr hx hb lx
      go_wp2
      go_loopw [3, 6] (fun o i wr => ∃ (j : Nat) (S : ByteArray), j ≤ 32 ∧ i = .int .i64 j ∧ o = .string S ∧ Keep (fun _ => False) w wr ∧ S.data.toList = be 1 n ++ (l.take k).flatten ++ x.take j) (fun _ i _ => 32 - (intOf i).toNat)
      case atStart => exact ⟨0, _, Nat.zero_le _, rfl, rfl, HK.out, by rw [HS.out]; simp⟩
      case round =>
        obtain ⟨j, S2, hj, rfl, rfl, hkp, hS⟩ := hrel
        have HK : Hid _ := hkp
        have HS : Hid _ := hS
        clear hkp hS
        by_cases hj2 : j < 32
        · obtain ⟨d, hd⟩ : ∃ d, x[j]? = some d := ⟨_, List.getElem?_eq_getElem (by rw [Lx.out]; exact hj2)⟩
          have g0 : wr.cell? ⟨b, off + k * 32 + j, none⟩ = some (.int .u8 (d.toNat : Int)) := HK.out.range Hb.out (fun h => h) Hr.out j (bv d) (by rw [List.getElem?_map, hd]; rfl)
          have hcv := conv_new wr [d] #[.int .u8 (d.toNat : Int)] (by simp [bv]) 1 rfl (by simp) (by simp)
          have hsz : S2.size ≤ 9000 := by
            rw [size_of HS.out, List.length_append, List.length_append, OctRd.be_len, Hsz.out, List.length_take]
            omega
          have Hd : Hid _ := hd
          clear hd
          go_wp2
          go_roundw
          case rel =>
            refine ⟨j + 1, _, by omega, rfl, rfl, HK.out.alloc _, (cat_byte _ _ d HS.out).trans ?_⟩
            rw [List.take_add_one, Hd.out]
            simp
          case measure => simp [intOf]; omega
        · obtain rfl : j = 32 := by omega
          have HS2 : Hid (S2.data.toList = be 1 n ++ (l.take (k + 1)).flatten) := by
            show S2.data.toList = be 1 n ++ (l.take (k + 1)).flatten
            rw [HS.out, take_flat l k x Hx.out, List.take_of_length_le (l := x) (by rw [Lx.out]; exact Nat.le_refl _), List.append_assoc]
          go_wp2
          go_roundw
          case rel => exact ⟨k + 1, S2, by omega, rfl, rfl, HK.out, HS2.out⟩
          case measure => simp [intOf]; omega
    · obtain rfl : k = n := by omega
      have e : (⟨(be 1 k ++ l.flatten).toArray⟩ : ByteArray) = S := by
        apply ByteArray.ext
        apply Array.toList_inj.1
        rw [HS.out, List.take_of_length_le (by rw [H.out.len]; exact Nat.le_refl _)]
      go_wp2
      go_ret
      exact ⟨by rw [e]; rfl, HK.out⟩
end Ids
end Go.Proofs.Ytmnmemeldjbifaa
