/-
  petrelref21's Load; there and back; a Tally that nobody made; awake.
-/
import Derived.Test.YtkambiodgoiefaaTal4
namespace Go.Proofs.Ytkambiodgoiefaa
open Go.RowKit
namespace Tal
open Oct Ref OctRd

theorem rreads (s : ByteArray) (n1 a1 n2 a2 : Nat) (b1 b2 : Int) (h1 : rnum s 0 0 4 = (n1, a1, b1)) (h2 : rnum s a1 b1 4 = (n2, a2, b2)) (ha1 : a1 ≤ s.size) (ha2 : a2 ≤ s.size) :
    xnum s 0 4 = (n1, s.extract a1 s.size, b1) ∧ xnum (s.extract a1 s.size) b1 4 = (n2, s.extract a2 s.size, b2) ∧ xendv (s.extract a2 s.size) b2 = (if b2 = 0 then (if a2 = s.size then (0 : Int) else 4) else b2) := by
  have e1 := num_law s 0 0 4 (by omega)
  have e2 := num_law s a1 b1 4 ha1
  rw [h1] at e1
  rw [h2] at e2
  rw [ByteArray.extract_zero_size] at e1
  refine ⟨e1, e2, ?_⟩
  unfold xendv
  rw [ByteArray.size_extract]
  have : (min s.size s.size - a2 = 0) = (a2 = s.size) := by rw [Nat.min_self]; apply propext; omega
  simp only [this]
theorem xnum_v (w : World) (b : Nat) (s : ByteArray) (e k : Int) (n : Nat) (s' : ByteArray) (e' : Int) (h : IsX w b s e) (hv : xnum s e k = (n, s', e')) : Calls Try.prog 27 #[.pointer (some ⟨b, 0, none⟩), .int .i64 k] w fun en w' =>
    en = .returned (.int .i64 n) ∧ IsX w' b s' e' ∧ Keep (fun k => k = b) w w' := by
  have := xnum_any w b s e k h
  rw [hv] at this
  exact this
theorem xend_v (w : World) (b : Nat) (s : ByteArray) (e v : Int) (h : IsX w b s e) (hv : xendv s e = v) : Calls Try.prog 28 #[.pointer (some ⟨b, 0, none⟩)] w fun en w' =>
    en = .returned (.int .i64 v) ∧ w = w' := hv ▸ xend_any w b s e h
theorem rload_bad (w : World) (s : ByteArray) (hs : s.size ≤ maxLen) (h8 : s.size ≠ 8) :
    Calls Try.prog 15 #[.string s] w fun e w' => e = .returned (.tuple #[.int .i64 0, .int .i64 (ev s)]) ∧ Keep (fun _ => False) w w' := by
  obtain ⟨n1, a1, b1, n2, a2, b2, h1, h2, ha1, ha2, hh⟩ := reads s
  obtain ⟨x1, x2, x3⟩ := rreads s n1 a1 n2 a2 b1 b2 h1 h2 ha1 ha2
  have hv : xendv (s.extract a2 s.size) b2 = ev s := by
    rw [x3]
    rcases hh with h | h
    · exact absurd h.1 h8
    · exact h.2
  obtain ⟨v, hvv⟩ : ∃ v, ev s = v := ⟨_, rfl⟩
  rw [hvv] at hv ⊢
  have hv0 : (v != 0) = true := by unfold ev at hvv; split at hvv <;> subst hvv <;> rfl
  have H1 : Hid _ := x1
  have H2 : Hid _ := x2
  have Hv : Hid _ := hv
  clear h1 h2 x1 x2 x3 hv hh hvv
  go_enter Try.func15, Try.ntmps15
  go_wp2_with (first | (go_at_call 27; first | (refine (xnum_v _ _ _ _ _ _ _ _ G2.out H2.out).mono ?_; rintro e w3 ⟨rfl, g1, k1⟩; have G3 : Hid _ := g1; have K3 : Hid _ := k1; clear g1 k1) | (refine (xnum_v _ w.heap.size s 0 4 _ _ _ ⟨heap_alloc_new w _, hs⟩ H1.out).mono ?_; rintro e w2 ⟨rfl, g1, k1⟩; have G2 : Hid _ := g1; have K2 : Hid _ := k1; clear g1 k1)) | (go_at_call 28; refine (xend_v _ _ _ _ _ G3.out Hv.out).mono ?_; rintro e w4 ⟨rfl, rfl⟩))
  go_ret2
  exact ⟨rfl, ((Keep.refl (fun _ => False) w).alloc _).trans' (K2.out.trans K3.out) (T := fun _ => False) (fun _ _ h => h) (fun y hy e => by omega)⟩
theorem rload_ok (w : World) (s : ByteArray) (hs : s.size ≤ maxLen) (h8 : s.size = 8) :
    Calls Try.prog 15 #[.string s] w fun e w' => e = .returned (.tuple #[.int .i64 (wrap64 ((four s 0 * 4294967296 + four s 4 : Nat) : Int)), .int .i64 0]) ∧ Keep (fun _ => False) w w' := by
  obtain ⟨n1, a1, b1, n2, a2, b2, h1, h2, ha1, ha2, hh⟩ := reads s
  obtain ⟨x1, x2, x3⟩ := rreads s n1 a1 n2 a2 b1 b2 h1 h2 ha1 ha2
  obtain ⟨_, e1, e2, e3, e4⟩ : s.size = 8 ∧ n1 = four s 0 ∧ n2 = four s 4 ∧ a2 = s.size ∧ b2 = 0 := by
    rcases hh with h | h
    · exact h
    · exact absurd h8 h.1
  have l1 : n1 < 4294967296 := e1 ▸ four_lt s 0
  have l2 : n2 < 4294967296 := e2 ▸ four_lt s 4
  rw [← e1, ← e2]
  have hv : xendv (s.extract a2 s.size) b2 = 0 := by rw [x3, if_pos e4, if_pos e3]
  have H1 : Hid _ := x1
  have H2 : Hid _ := x2
  have Hv : Hid _ := hv
  clear h1 h2 x1 x2 x3 hv hh e1 e2 e3 e4
  go_enter Try.func15, Try.ntmps15
  go_wp2_with (first | (go_at_call 27; first | (refine (xnum_v _ _ _ _ _ _ _ _ G2.out H2.out).mono ?_; rintro e w3 ⟨rfl, g1, k1⟩; have G3 : Hid _ := g1; have K3 : Hid _ := k1; clear g1 k1) | (refine (xnum_v _ w.heap.size s 0 4 _ _ _ ⟨heap_alloc_new w _, hs⟩ H1.out).mono ?_; rintro e w2 ⟨rfl, g1, k1⟩; have G2 : Hid _ := g1; have K2 : Hid _ := k1; clear g1 k1)) | (go_at_call 28; refine (xend_v _ _ _ _ _ G3.out Hv.out).mono ?_; rintro e w4 ⟨rfl, rfl⟩))
  go_ret2
  exact ⟨by rw [Int.natCast_add, Int.natCast_mul]; rfl, ((Keep.refl (fun _ => False) w).alloc _).trans' (K2.out.trans K3.out) (T := fun _ => False) (fun _ _ h => h) (fun y hy e => by omega)⟩

/-- What 'Put' writes for n. -/
def pt (n : Int) : ByteArray := ⟨(be 4 (n % 18446744073709551616 / 4294967296) ++ be 4 (n % 18446744073709551616 % 4294967296)).toArray⟩
theorem pt_size (n : Int) : (pt n).size = 8 := by
  show (be 4 _ ++ be 4 _).toArray.size = 8
  rw [List.size_toArray, List.length_append, be_len, be_len]
theorem put_n (w : World) (b : Nat) (n : Int) (h : IsT w b n) :
    Calls Try.prog 11 #[.pointer (some ⟨b, 0, none⟩)] w fun e w' => e = .returned (.string (pt n)) ∧ Keep (fun _ => False) w w' := by
  have h0 : 0 ≤ n % 18446744073709551616 := Int.emod_nonneg _ (by decide)
  have := put_t w b n (n % 18446744073709551616).toNat h (by rw [Int.toNat_of_nonneg h0]; rfl) (by omega)
  rw [Int.natCast_emod, Int.toNat_of_nonneg h0] at this
  exact this
theorem rput_n (w : World) (n : Int) :
    Calls Try.prog 12 #[.int .i64 n] w fun e w' => e = .returned (.string (pt n)) ∧ Keep (fun _ => False) w w' := by
  have h0 : 0 ≤ n % 18446744073709551616 := Int.emod_nonneg _ (by decide)
  have := rput w n (n % 18446744073709551616).toNat (by rw [Int.toNat_of_nonneg h0]; rfl) (by omega)
  rw [Int.natCast_emod, Int.toNat_of_nonneg h0] at this
  exact this
theorem four_l (l m : List UInt8) (hl : l.length = 4) : four ⟨(l ++ m).toArray⟩ 0 = natOf l := by
  unfold four
  rw [ByteArray.data_extract]
  simp [List.extract_eq_take_drop, hl]
theorem four_r (l m : List UInt8) (hl : l.length = 4) (hm : m.length = 4) : four ⟨(l ++ m).toArray⟩ 4 = natOf m := by
  unfold four
  rw [ByteArray.data_extract]
  simp [List.extract_eq_take_drop, hl]
  rw [List.take_of_length_le (by omega)]
theorem pt_four (n : Int) (h1 : -9223372036854775808 ≤ n) (h2 : n < 9223372036854775808) : wrap64 ((four (pt n) 0 * 4294967296 + four (pt n) 4 : Nat) : Int) = n := by
  unfold pt
  rw [four_l _ _ (be_len _ _), four_r _ _ (be_len _ _) (be_len _ _)]
  have a := natOf_be 4 (n % 18446744073709551616 / 4294967296) (by omega) (by omega)
  have b := natOf_be 4 (n % 18446744073709551616 % 4294967296) (by omega) (by omega)
  unfold wrap64
  omega
theorem four_pt (s : ByteArray) (h8 : s.size = 8) : pt (wrap64 ((four s 0 * 4294967296 + four s 4 : Nat) : Int)) = s := by
  have a := four_lt s 0
  have b := four_lt s 4
  have e1 : wrap64 ((four s 0 * 4294967296 + four s 4 : Nat) : Int) % 18446744073709551616 / 4294967296 = (four s 0 : Int) := by unfold wrap64; omega
  have e2 : wrap64 ((four s 0 * 4294967296 + four s 4 : Nat) : Int) % 18446744073709551616 % 4294967296 = (four s 4 : Int) := by unfold wrap64; omega
  unfold pt
  rw [e1, e2, four_be s 0 (by omega), four_be s 4 (by omega)]
  apply ByteArray.ext
  apply Array.toList_inj.1
  have h8' : s.data.toList.length = 8 := h8
  rw [ByteArray.data_extract, ByteArray.data_extract]
  simp only [Array.toList_extract, List.extract_eq_take_drop]
  simp only [Nat.zero_add, Nat.sub_zero, List.drop_zero, Nat.reduceAdd, Nat.reduceSub]
  rw [List.take_of_length_le (l := s.data.toList.drop 4) (by rw [List.length_drop]; omega)]
  exact List.take_append_drop 4 _
theorem load_pt (w : World) (n : Int) (h1 : -9223372036854775808 ≤ n) (h2 : n < 9223372036854775808) :
    Calls Try.prog 13 #[.string (pt n)] w fun e w' => ∃ b, w.heap.size ≤ b ∧ e = .returned (.tuple #[.pointer (some ⟨b, 0, none⟩), .int .i64 0]) ∧ IsT w' b n ∧ Keep (fun _ => False) w w' := by
  have := load_ok w (pt n) (by rw [pt_size]; decide) (pt_size n)
  rwa [pt_four n h1 h2] at this

/-! A Tally that nobody made. -/
def TNone (p : Value) (w : World) : Prop := Calls Try.prog 16 #[p] w fun e w' => e = .returned (.bool true) ∧ w' = w
theorem tn_nil (w : World) : TNone (.pointer none) w := by
  unfold TNone
  go_enter Try.func16, Try.ntmps16
  go_wp2
  go_ret
  exact ⟨rfl, rfl⟩
theorem tn_zero (w : World) (b : Nat) (hc1 : w.cell? ⟨b, 1, none⟩ = some (.bool false)) : TNone (.pointer (some ⟨b, 0, none⟩)) w := by
  unfold TNone
  go_enter Try.func16, Try.ntmps16
  go_wp2
  go_ret
  exact ⟨rfl, rfl⟩
theorem inc_none (w : World) (p : Value) (n : Int) (h : TNone p w) : Calls Try.prog 8 #[p, .int .i64 n] w fun e w' => e = .returned (.int .i64 8) ∧ w' = w := by
  go_enter Try.func8, Try.ntmps8
  go_wp2_with (first | (go_at_call 16; refine Calls.mono h ?_; rintro e w' ⟨rfl, rfl⟩))
  go_ret
  exact ⟨rfl, rfl⟩
theorem n_none (w : World) (p : Value) (h : TNone p w) : Calls Try.prog 10 #[p] w fun e w' => e = .returned (.int .i64 0) ∧ w' = w := by
  go_enter Try.func10, Try.ntmps10
  go_wp2_with (first | (go_at_call 16; refine Calls.mono h ?_; rintro e w' ⟨rfl, rfl⟩))
  go_ret
  exact ⟨rfl, rfl⟩
theorem put_none (w : World) (p : Value) (h : TNone p w) : Calls Try.prog 11 #[p] w fun e w' => e = .returned (.string ByteArray.empty) ∧ w' = w := by
  go_enter Try.func11, Try.ntmps11
  go_wp2_with (first | (go_at_call 16; refine Calls.mono h ?_; rintro e w' ⟨rfl, rfl⟩))
  go_ret
  exact ⟨rfl, rfl⟩
set_option maxHeartbeats 2000000 in
theorem awake_true (w : World) : Calls Try.prog 14 #[] w fun e w' => e = .returned (.bool true) ∧ Keep (fun _ => False) w w' := by
  go_enter Try.func14, Try.ntmps14
  go_wp2_with (first | (go_at_call 7; refine (new_t _).mono ?_; rintro e w1 ⟨rfl, g1, k1⟩; have G1 : Hid _ := g1; have K1 : Hid _ := k1; clear g1 k1) | (go_at_call 8; first | (refine (inc_t _ _ _ _ G2.out (by decide) (by decide)).mono ?_; rintro e w3 ⟨rfl, g1, k1⟩; have G3 : Hid _ := g1; have K3 : Hid _ := k1; clear g1 k1) | (refine (inc_t _ _ _ _ G1.out (by decide) (by decide)).mono ?_; rintro e w2 ⟨rfl, g1, k1⟩; have G2 : Hid _ := g1; have K2 : Hid _ := k1; clear g1 k1)) | (go_at_call 11; refine (put_n _ _ _ G3.out).mono ?_; rintro e w4 ⟨rfl, k1⟩; have K4 : Hid _ := k1; clear k1) | (go_at_call 13; refine (load_pt _ _ (by decide) (by decide)).mono ?_; rintro e w5 ⟨b5, l5, rfl, g1, k1⟩; have G5 : Hid _ := g1; have K5 : Hid _ := k1; clear g1 k1) | (go_at_call 10; first | (refine (n_t _ w.heap.size 2 ((G3.out.keep K4.out (fun h => h)).keep K5.out (fun h => h))).mono ?_; rintro e w6 ⟨rfl, rfl⟩) | (refine (n_t _ _ 2 G5.out).mono ?_; rintro e w6 ⟨rfl, rfl⟩)))
  go_ret
  exact ⟨rfl, ((K1.out.trans' (K2.out.trans K3.out) (T := fun _ => False) (fun _ _ h => h) (fun y hy e => by omega)).trans K4.out).trans K5.out⟩
end Tal
end Go.Proofs.Ytkambiodgoiefaa
