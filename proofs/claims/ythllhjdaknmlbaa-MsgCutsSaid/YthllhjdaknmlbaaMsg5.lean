/-
  msg.Put, of a message that may be put.
-/
import Derived.Test.YthllhjdaknmlbaaMsg4
import Derived.Test.YthllhjdaknmlbaaGOc
import Derived.Test.YthllhjdaknmlbaaGId
set_option linter.unusedVariables false
set_option linter.unusedSimpArgs false
namespace Go.Proofs.Ythllhjdaknmlbaa
open Go.RowKit
namespace Ms
open Oct Ids OctW

set_option maxRecDepth 100000 in
set_option maxHeartbeats 1000000 in
theorem put_ok (w : World) (K : Int) (a : Option Addr) (n c : Nat) (B : ByteArray) (l : List (List UInt8)) (h : At w a n l) (hc : chk K n B = 0) :
    Calls Try.prog 9 #[.agg #[.int .i64 K, .slice a n c, .string B]] w fun e w' => e = .returned (.tuple #[.string ⟨(enc K n B l).toArray⟩, .int .i64 0]) ∧ Keep (fun _ => False) w w' := by
  rcases knd_or K with hk | hk | hk
  · rw [chk_0 hk] at hc; omega
  · have hn := chk_ids hc hk
    have hr := knd_rng (K := K) (by omega)
    have H : Hid _ := h
    have Hc : Hid _ := hc
    have HB : Hid _ := heap_alloc_new w (.cells #[.int .i64 K, .slice a n c, .string B] 28)
    have Hk : Hid _ := hk
    clear h hc hk
    go_enter Try.func9, Try.ntmps9
    go_wp2_with (first | (go_at_call 8; refine (check_any _ _ _ _ _ _).mono ?_; rw [Hc.out]; rintro e w1 ⟨rfl, k1⟩; have K1 : Hid _ := ((Keep.refl (fun _ => False) w).alloc _).trans k1; have HB : Hid _ := k1.get HB.out (fun h => h); have H1B : Hid _ := HB.out; clear k1; obtain ⟨g0, g1, g2⟩ := mcells HB.out))
    refine Txt.wp_region_text (fun w' => w'.cell? ⟨w.heap.size, 0, none⟩ = some (.int .i64 K)) [4, 0, 2, 4, 0] (by kernel_rfl) (by kernel_rfl) g0 ?_
    refine Txt.tl_loud (by rfl) ?_
    go_simp
    refine (new_wr _).mono ?_
    rintro e w2 ⟨rfl, h⟩
    have HB : Hid _ := h.keep.get H1B.out (fun h => h)
    have HW : Hid _ := h
    clear h
    obtain ⟨g0, g1, g2⟩ := mcells HB.out
    dsimp only
    refine ⟨g0, ?_⟩
    repeat (first
      | (refine Txt.tl_pure (v := ?_) (by rfl) ?_ ?_; rotate_left; (focus (intro _; go_simp; try with_reducible rfl)); simp only [Act.put, List.setIfInBounds_toArray, List.set_cons_zero, List.set_cons_succ])
      | (refine Txt.tl_skip (by rfl) trivial ?_; simp only [Act.put, List.setIfInBounds_toArray, List.set_cons_zero, List.set_cons_succ])
      | (refine Txt.tl_load (v := ?_) (by rfl) (by rfl) (by rfl) (by kernel_rfl) ?_ ?_; rotate_left; (focus (first | assumption | (go_simp; done) | (go_simp; with_reducible rfl))); simp only [Act.put, List.setIfInBounds_toArray, List.set_cons_zero, List.set_cons_succ])
      | (refine Txt.tl_alloc (by rfl) ?_; go_simp; refine ⟨by (first | exact Txt.Le.alloc_drew _ _ | exact Txt.Le.alloc _ _), ?_⟩))
    refine Txt.tl_loadS (v := .int .i64 K) (by rfl) (by rfl) (by rfl) (by kernel_rfl) (fun _ h => h) ?_
    simp only [Act.put, List.setIfInBounds_toArray, List.set_cons_zero, List.set_cons_succ]
    repeat (first
      | (refine Txt.tl_pure (v := ?_) (by rfl) ?_ ?_; rotate_left; (focus (intro _; go_simp; try with_reducible rfl)); simp only [Act.put, List.setIfInBounds_toArray, List.set_cons_zero, List.set_cons_succ])
      | (refine Txt.tl_skip (by rfl) trivial ?_; simp only [Act.put, List.setIfInBounds_toArray, List.set_cons_zero, List.set_cons_succ])
      | (refine Txt.tl_load (v := ?_) (by rfl) (by rfl) (by rfl) (by kernel_rfl) ?_ ?_; rotate_left; (focus (first | assumption | (go_simp; done) | (go_simp; with_reducible rfl))); simp only [Act.put, List.setIfInBounds_toArray, List.set_cons_zero, List.set_cons_succ])
      | (refine Txt.tl_alloc (by rfl) ?_; go_simp; refine ⟨by (first | exact Txt.Le.alloc_drew _ _ | exact Txt.Le.alloc _ _), ?_⟩))
    refine Txt.tl_loud (by rfl) ?_
    go_simp
    refine (num1_wr HW.out K (by omega) (by omega) (by simp)).mono ?_
    rintro e w3 ⟨rfl, h⟩
    have HB : Hid _ := h.keep.get H1B.out (fun h => h)
    have HW : Hid _ := h
    clear h
    obtain ⟨g0, g1, g2⟩ := mcells HB.out
    dsimp only
    refine ⟨g0, ?_⟩
    repeat (first
      | (refine Txt.tl_pure (v := ?_) (by rfl) ?_ ?_; rotate_left; (focus (intro _; go_simp; try with_reducible rfl)); simp only [Act.put, List.setIfInBounds_toArray, List.set_cons_zero, List.set_cons_succ])
      | (refine Txt.tl_skip (by rfl) trivial ?_; simp only [Act.put, List.setIfInBounds_toArray, List.set_cons_zero, List.set_cons_succ])
      | (refine Txt.tl_load (v := ?_) (by rfl) (by rfl) (by rfl) (by kernel_rfl) ?_ ?_; rotate_left; (focus (first | assumption | (go_simp; done) | (go_simp; with_reducible rfl))); simp only [Act.put, List.setIfInBounds_toArray, List.set_cons_zero, List.set_cons_succ])
      | (refine Txt.tl_alloc (by rfl) ?_; go_simp; refine ⟨by (first | exact Txt.Le.alloc_drew _ _ | exact Txt.Le.alloc _ _), ?_⟩))
    refine Txt.tl_nil ?_
    go_wp2_with (first | (go_at_call 11; refine (has_any _ _).mono ?_; rw [Hk.out]; rintro e w9 ⟨rfl, rfl⟩) | (go_at_call 20; refine (num1_wr HW.out n (by omega) (by omega) (by simp [be])).mono ?_; rintro e w4 ⟨rfl, h⟩; have HW : Hid _ := h; have HB : Hid _ := h.keep.get H1B.out (fun h => h); clear h; obtain ⟨g0, g1, g2⟩ := mcells HB.out))
    go_loopw [36] (fun i wr => ∃ k : Nat, k ≤ n ∧ i = .int .i64 k ∧ Wr w1.drew wr w1.drew.heap.size (([] ++ be 1 K ++ be 1 n) ++ (l.take k).flatten)) (fun i _ => n - (intOf i).toNat)
    case atStart => exact ⟨0, Nat.zero_le _, rfl, by simpa using HW.out⟩
    case round =>
      obtain ⟨k, hk, rfl, hrel⟩ := hrel
      have HW : Hid _ := hrel
      clear hrel
      by_cases hlt : k < n
      · obtain ⟨x, hx⟩ : ∃ x, l[k]? = some x := ⟨_, List.getElem?_eq_getElem (by rw [H.out.len]; omega)⟩
        obtain ⟨b, off, rfl, hb, hr⟩ : ∃ b off, a = some ⟨b, off, none⟩ ∧ b < w.heap.size ∧ ∀ i x, l[i]? = some x → w.rangeAt b (off + i * 32) (x.map bv) := by rcases H.out.lay with e | e; omega; exact e
        have lx := H.out.size x (List.mem_of_getElem? hx)
        have Hld : Hid _ := (K1.out.drew.trans HW.out.keep).range hb (fun h => h) (hr k x hx)
        have Lx : Hid _ := lx
        have hcv := conv_id (wr.alloc (.cells (x.map bv).toArray 41)) wr.heap.size 0 x lx 32 (range_new wr _ _)
        have Hx : Hid _ := hx
        have hfl := flat_take l k H.out.size (by rw [H.out.len]; omega)
        have Hln : Hid ((([] ++ be 1 K ++ be 1 n) ++ (l.take k).flatten).length + (⟨x.toArray⟩ : ByteArray).size ≤ 1000000000) := by
          show (([] ++ be 1 K ++ be 1 n) ++ (l.take k).flatten).length + (⟨x.toArray⟩ : ByteArray).size ≤ 1000000000
          rw [List.length_append, hfl, arr_size, lx]
          simp [be]
          omega
        clear hr hx hb lx hfl
        go_wp2_with (first | (refine wl_load rfl rfl rfl Lx.out Hld.out ?_; simp only [Act.put, List.setIfInBounds_toArray, List.set_cons_zero, List.set_cons_succ]) | (refine wl_store_new rfl rfl rfl rfl rfl Lx.out rfl ?_) | (go_at_call 23; refine (raw_wr (HW.out.calm ((Keep.refl _ _).alloc _)) _ Hln.out).mono ?_; rintro e w5 ⟨rfl, h⟩; have HW : Hid _ := h; clear h))
        go_roundw
        case rel => exact ⟨k + 1, by omega, rfl, by rw [take_flat l k x Hx.out, ← List.append_assoc]; exact HW.out⟩
        case measure => simp [intOf]; omega
      · obtain rfl : k = n := by omega
        have e : enc K k B l = ([] ++ be 1 K ++ be 1 k) ++ (l.take k).flatten := by
          unfold enc
          rw [if_pos Hk.out, List.take_of_length_le (by rw [H.out.len]; exact Nat.le_refl _)]
          simp
        go_wp2_with (first | (go_at_call 22; refine (done_wr HW.out).mono ?_; rintro e w5 ⟨rfl, h⟩; have K5 : Hid _ := h; clear h))
        go_ret2
        exact ⟨by rw [e]; rfl, K1.out.drew.trans K5.out⟩
  · obtain ⟨rfl, hn⟩ := chk_body hc hk
    have hr := knd_rng (K := K) (by omega)
    have e : enc K 0 B l = ([] ++ be 1 K) ++ (be 2 B.size ++ B.data.toList) := by unfold enc; rw [if_neg (by omega), List.nil_append]
    have Hc : Hid _ := hc
    have HB : Hid _ := heap_alloc_new w (.cells #[.int .i64 K, .slice a 0 c, .string B] 28)
    have Hk : Hid _ := hk
    rw [e]
    clear h hc hk e
    go_enter Try.func9, Try.ntmps9
    go_wp2_with (first | (go_at_call 8; refine (check_any _ _ _ _ _ _).mono ?_; rw [Hc.out]; rintro e w1 ⟨rfl, k1⟩; have K1 : Hid _ := ((Keep.refl (fun _ => False) w).alloc _).trans k1; have HB : Hid _ := k1.get HB.out (fun h => h); have H1B : Hid _ := HB.out; clear k1; obtain ⟨g0, g1, g2⟩ := mcells HB.out))
    refine Txt.wp_region_text (fun w' => w'.cell? ⟨w.heap.size, 0, none⟩ = some (.int .i64 K)) [4, 0, 2, 4, 0] (by kernel_rfl) (by kernel_rfl) g0 ?_
    refine Txt.tl_loud (by rfl) ?_
    go_simp
    refine (new_wr _).mono ?_
    rintro e w2 ⟨rfl, h⟩
    have HB : Hid _ := h.keep.get H1B.out (fun h => h)
    have HW : Hid _ := h
    clear h
    obtain ⟨g0, g1, g2⟩ := mcells HB.out
    dsimp only
    refine ⟨g0, ?_⟩
    repeat (first
      | (refine Txt.tl_pure (v := ?_) (by rfl) ?_ ?_; rotate_left; (focus (intro _; go_simp; try with_reducible rfl)); simp only [Act.put, List.setIfInBounds_toArray, List.set_cons_zero, List.set_cons_succ])
      | (refine Txt.tl_skip (by rfl) trivial ?_; simp only [Act.put, List.setIfInBounds_toArray, List.set_cons_zero, List.set_cons_succ])
      | (refine Txt.tl_load (v := ?_) (by rfl) (by rfl) (by rfl) (by kernel_rfl) ?_ ?_; rotate_left; (focus (first | assumption | (go_simp; done) | (go_simp; with_reducible rfl))); simp only [Act.put, List.setIfInBounds_toArray, List.set_cons_zero, List.set_cons_succ])
      | (refine Txt.tl_alloc (by rfl) ?_; go_simp; refine ⟨by (first | exact Txt.Le.alloc_drew _ _ | exact Txt.Le.alloc _ _), ?_⟩))
    refine Txt.tl_loadS (v := .int .i64 K) (by rfl) (by rfl) (by rfl) (by kernel_rfl) (fun _ h => h) ?_
    simp only [Act.put, List.setIfInBounds_toArray, List.set_cons_zero, List.set_cons_succ]
    repeat (first
      | (refine Txt.tl_pure (v := ?_) (by rfl) ?_ ?_; rotate_left; (focus (intro _; go_simp; try with_reducible rfl)); simp only [Act.put, List.setIfInBounds_toArray, List.set_cons_zero, List.set_cons_succ])
      | (refine Txt.tl_skip (by rfl) trivial ?_; simp only [Act.put, List.setIfInBounds_toArray, List.set_cons_zero, List.set_cons_succ])
      | (refine Txt.tl_load (v := ?_) (by rfl) (by rfl) (by rfl) (by kernel_rfl) ?_ ?_; rotate_left; (focus (first | assumption | (go_simp; done) | (go_simp; with_reducible rfl))); simp only [Act.put, List.setIfInBounds_toArray, List.set_cons_zero, List.set_cons_succ])
      | (refine Txt.tl_alloc (by rfl) ?_; go_simp; refine ⟨by (first | exact Txt.Le.alloc_drew _ _ | exact Txt.Le.alloc _ _), ?_⟩))
    refine Txt.tl_loud (by rfl) ?_
    go_simp
    refine (num1_wr HW.out K (by omega) (by omega) (by simp)).mono ?_
    rintro e w3 ⟨rfl, h⟩
    have HB : Hid _ := h.keep.get H1B.out (fun h => h)
    have HW : Hid _ := h
    clear h
    obtain ⟨g0, g1, g2⟩ := mcells HB.out
    dsimp only
    refine ⟨g0, ?_⟩
    repeat (first
      | (refine Txt.tl_pure (v := ?_) (by rfl) ?_ ?_; rotate_left; (focus (intro _; go_simp; try with_reducible rfl)); simp only [Act.put, List.setIfInBounds_toArray, List.set_cons_zero, List.set_cons_succ])
      | (refine Txt.tl_skip (by rfl) trivial ?_; simp only [Act.put, List.setIfInBounds_toArray, List.set_cons_zero, List.set_cons_succ])
      | (refine Txt.tl_load (v := ?_) (by rfl) (by rfl) (by rfl) (by kernel_rfl) ?_ ?_; rotate_left; (focus (first | assumption | (go_simp; done) | (go_simp; with_reducible rfl))); simp only [Act.put, List.setIfInBounds_toArray, List.set_cons_zero, List.set_cons_succ])
      | (refine Txt.tl_alloc (by rfl) ?_; go_simp; refine ⟨by (first | exact Txt.Le.alloc_drew _ _ | exact Txt.Le.alloc _ _), ?_⟩))
    refine Txt.tl_nil ?_
    go_wp2_with (first | (go_at_call 11; refine (has_any _ _).mono ?_; rw [Hk.out]; rintro e w9 ⟨rfl, rfl⟩) | (go_at_call 21; refine (text_wr HW.out B (by simp [be]) (by omega)).mono ?_; rintro e w4 ⟨rfl, h⟩; have HW : Hid _ := h; clear h) | (go_at_call 22; refine (done_wr HW.out).mono ?_; rintro e w5 ⟨rfl, h⟩; have K5 : Hid _ := h; clear h))
    go_ret2
    exact ⟨rfl, K1.out.drew.trans K5.out⟩
end Ms
end Go.Proofs.Ythllhjdaknmlbaa
