/-
  petrelref09.Of, where a message's kind was read.
-/
import Derived.Test.YtmnmemeldjbifaaMsg8
namespace Go.Proofs.Ytmnmemeldjbifaa
open Go.RowKit
namespace Ms
open Oct Ids
open Ref (endv IsXa)

set_option maxRecDepth 100000 in
set_option maxHeartbeats 1000000 in
theorem rof_body_end (w : World) (s : ByteArray) (h : s.size ≤ 1024) (n a1 a2 : Nat) (x : ByteArray) (b2 e : Int) (hv : rnum s 0 0 1 = (n, a1, 0)) (hk : knd n = 2) (ht : rtext s a1 0 65535 = (x, a2, b2)) (he : endv s a2 b2 = e) (he0 : e ≠ 0) :
    Calls Try.prog 13 #[.string s] w fun en w' => en = .returned (mz e) ∧ Keep (fun _ => False) w w' := by
  have Hv : Hid _ := hv
  have Hk : Hid _ := hk
  have Ht : Hid _ := ht
  have He : Hid _ := he
  have he1 : (e == 0) = false := by simpa using he0
  have he2 : (e != 0) = true := by simpa using he0
  have H0 : Hid _ := hx0 w s h
  clear hv hk ht he he0
  go_enter Try.func13, Try.ntmps13
  go_wp2_with (first | (go_at_call 39; first | (refine (xnum_ox HS.out Hn.out).mono ?_; rintro e w3 ⟨rfl, h1⟩; have HL : Hid _ := h1; clear h1; obtain ⟨g0, g1, g2, f1, f2⟩ := HL.out.cells; have ge := HL.out.r.err) | (refine (Ref.xnum_a H0.out Hv.out).mono ?_; rintro e w2 ⟨rfl, h1, k1⟩; have HS : Hid _ := ox_start (n := n) ((Keep.refl _ _).alloc _) h1 k1; clear h1 k1; obtain ⟨g0, g1, g2, f1, f2⟩ := HS.out.cells; have ge := HS.out.r.err)) | (go_at_call 40; refine (kind_any _ _).mono ?_; rw [Hk.out]; rintro e w9 ⟨rfl, rfl⟩) | (refine wl_storeRow info_msg rfl rfl rfl rfl rfl rfl (by simp [Value.oneCell']) HS.out.rv rfl ?_) | (refine wl_storeRow info_msg rfl rfl rfl rfl rfl rfl (by simp [Value.oneCell']) HE.out.rv rfl ?_) | (go_at_call 42; refine (xtext_ox HS.out Ht.out).mono ?_; rintro e w4 ⟨rfl, h1⟩; have HL : Hid _ := h1; clear h1; obtain ⟨g0, g1, g2, f1, f2⟩ := HL.out.cells) | (go_at_call 43; refine (xend_ox (HL.out.setBody x) He.out).mono ?_; rintro e w5 ⟨rfl, h1⟩; have HE : Hid _ := h1; clear h1; obtain ⟨g0, g1, g2, f1, f2⟩ := HE.out.cells) | (go_at_call 18; refine (rcheck_ox HE.out Hc.out).mono ?_; rintro e w6 ⟨rfl, h1⟩; have HE : Hid _ := h1; clear h1; obtain ⟨g0, g1, g2, f1, f2⟩ := HE.out.cells))
  refine bodyPost_ret (res_me rfl _ _ w.heap.size #[.int .i64 0, .slice none 0 0, .string ByteArray.empty] rfl rfl (setRow_heap _ _ _ _ _ _ HE.out.rv) _ rfl) rfl ?_
  exact ⟨rfl, HE.out.keep.setRow _ _ (fun h => by omega)⟩
set_option maxRecDepth 100000 in
set_option maxHeartbeats 1000000 in
theorem rof_body_bad (w : World) (s : ByteArray) (h : s.size ≤ 1024) (n a1 a2 : Nat) (x : ByteArray) (b2 c : Int) (hv : rnum s 0 0 1 = (n, a1, 0)) (hk : knd n = 2) (ht : rtext s a1 0 65535 = (x, a2, b2)) (he : endv s a2 b2 = 0) (hc : chk n 0 x = c) (hc0 : c ≠ 0) :
    Calls Try.prog 13 #[.string s] w fun en w' => en = .returned (mz c) ∧ Keep (fun _ => False) w w' := by
  have Hv : Hid _ := hv
  have Hk : Hid _ := hk
  have Ht : Hid _ := ht
  have He : Hid _ := he
  have Hc : Hid _ := hc
  have he2 : (c != 0) = true := by simpa using hc0
  have H0 : Hid _ := hx0 w s h
  clear hv hk ht he hc hc0
  go_enter Try.func13, Try.ntmps13
  go_wp2_with (first | (go_at_call 39; first | (refine (xnum_ox HS.out Hn.out).mono ?_; rintro e w3 ⟨rfl, h1⟩; have HL : Hid _ := h1; clear h1; obtain ⟨g0, g1, g2, f1, f2⟩ := HL.out.cells; have ge := HL.out.r.err) | (refine (Ref.xnum_a H0.out Hv.out).mono ?_; rintro e w2 ⟨rfl, h1, k1⟩; have HS : Hid _ := ox_start (n := n) ((Keep.refl _ _).alloc _) h1 k1; clear h1 k1; obtain ⟨g0, g1, g2, f1, f2⟩ := HS.out.cells; have ge := HS.out.r.err)) | (go_at_call 40; refine (kind_any _ _).mono ?_; rw [Hk.out]; rintro e w9 ⟨rfl, rfl⟩) | (refine wl_storeRow info_msg rfl rfl rfl rfl rfl rfl (by simp [Value.oneCell']) HS.out.rv rfl ?_) | (refine wl_storeRow info_msg rfl rfl rfl rfl rfl rfl (by simp [Value.oneCell']) HE.out.rv rfl ?_) | (go_at_call 42; refine (xtext_ox HS.out Ht.out).mono ?_; rintro e w4 ⟨rfl, h1⟩; have HL : Hid _ := h1; clear h1; obtain ⟨g0, g1, g2, f1, f2⟩ := HL.out.cells) | (go_at_call 43; refine (xend_ox (HL.out.setBody x) He.out).mono ?_; rintro e w5 ⟨rfl, h1⟩; have HE : Hid _ := h1; clear h1; obtain ⟨g0, g1, g2, f1, f2⟩ := HE.out.cells) | (go_at_call 18; refine (rcheck_ox HE.out Hc.out).mono ?_; rintro e w6 ⟨rfl, h1⟩; have HE : Hid _ := h1; clear h1; obtain ⟨g0, g1, g2, f1, f2⟩ := HE.out.cells))
  refine bodyPost_ret (res_me rfl _ _ w.heap.size #[.int .i64 0, .slice none 0 0, .string ByteArray.empty] rfl rfl (setRow_heap _ _ _ _ _ _ HE.out.rv) _ rfl) rfl ?_
  exact ⟨rfl, HE.out.keep.setRow _ _ (fun h => by omega)⟩
set_option maxRecDepth 100000 in
set_option maxHeartbeats 1000000 in
theorem rof_body_ok (w : World) (s : ByteArray) (h : s.size ≤ 1024) (n a1 a2 : Nat) (x : ByteArray) (b2 : Int) (hv : rnum s 0 0 1 = (n, a1, 0)) (hk : knd n = 2) (ht : rtext s a1 0 65535 = (x, a2, b2)) (he : endv s a2 b2 = 0) (hc : chk n 0 x = 0) :
    Calls Try.prog 13 #[.string s] w fun en w' => en = .returned (.tuple #[.agg #[.int .i64 n, .slice none 0 0, .string x], .int .i64 0]) ∧ Keep (fun _ => False) w w' := by
  have Hv : Hid _ := hv
  have Hk : Hid _ := hk
  have Ht : Hid _ := ht
  have He : Hid _ := he
  have Hc : Hid _ := hc
  have H0 : Hid _ := hx0 w s h
  clear hv hk ht he hc
  go_enter Try.func13, Try.ntmps13
  go_wp2_with (first | (go_at_call 39; first | (refine (xnum_ox HS.out Hn.out).mono ?_; rintro e w3 ⟨rfl, h1⟩; have HL : Hid _ := h1; clear h1; obtain ⟨g0, g1, g2, f1, f2⟩ := HL.out.cells; have ge := HL.out.r.err) | (refine (Ref.xnum_a H0.out Hv.out).mono ?_; rintro e w2 ⟨rfl, h1, k1⟩; have HS : Hid _ := ox_start (n := n) ((Keep.refl _ _).alloc _) h1 k1; clear h1 k1; obtain ⟨g0, g1, g2, f1, f2⟩ := HS.out.cells; have ge := HS.out.r.err)) | (go_at_call 40; refine (kind_any _ _).mono ?_; rw [Hk.out]; rintro e w9 ⟨rfl, rfl⟩) | (refine wl_storeRow info_msg rfl rfl rfl rfl rfl rfl (by simp [Value.oneCell']) HS.out.rv rfl ?_) | (refine wl_storeRow info_msg rfl rfl rfl rfl rfl rfl (by simp [Value.oneCell']) HE.out.rv rfl ?_) | (go_at_call 42; refine (xtext_ox HS.out Ht.out).mono ?_; rintro e w4 ⟨rfl, h1⟩; have HL : Hid _ := h1; clear h1; obtain ⟨g0, g1, g2, f1, f2⟩ := HL.out.cells) | (go_at_call 43; refine (xend_ox (HL.out.setBody x) He.out).mono ?_; rintro e w5 ⟨rfl, h1⟩; have HE : Hid _ := h1; clear h1; obtain ⟨g0, g1, g2, f1, f2⟩ := HE.out.cells) | (go_at_call 18; refine (rcheck_ox HE.out Hc.out).mono ?_; rintro e w6 ⟨rfl, h1⟩; have HE : Hid _ := h1; clear h1; obtain ⟨g0, g1, g2, f1, f2⟩ := HE.out.cells))
  refine bodyPost_ret (res_me rfl _ _ w.heap.size #[.int .i64 n, .slice none 0 0, .string x] rfl rfl (setRow_heap _ _ _ _ _ _ HE.out.rv) _ rfl) rfl ?_
  exact ⟨rfl, HE.out.keep.setRow _ _ (fun h => by omega)⟩
set_option maxRecDepth 100000 in
set_option maxHeartbeats 2000000 in
theorem rof_ids_end (w : World) (s : ByteArray) (h : s.size ≤ 1024) (n a1 n2 a2 : Nat) (b2 e : Int) (hv : rnum s 0 0 1 = (n, a1, 0)) (hk : knd n = 1) (hn : rnum s a1 0 1 = (n2, a2, b2)) (he : endv s (rdIds s a2 b2 n2).2.1 (rdIds s a2 b2 n2).2.2 = e) (he0 : e ≠ 0) :
    Calls Try.prog 13 #[.string s] w fun en w' => en = .returned (mz e) ∧ Keep (fun _ => False) w w' := by
  have hn2 : n2 < 256 := by have := rnum1_lt s a1 0; rw [hn] at this; exact this
  have Hv : Hid _ := hv
  have Hk : Hid _ := hk
  have Hn : Hid _ := hn
  have He : Hid _ := he
  have he1 : (e == 0) = false := by simpa using he0
  have he2 : (e != 0) = true := by simpa using he0
  have H0 : Hid _ := hx0 w s h
  clear hv hk hn he he0
  go_enter Try.func13, Try.ntmps13
  go_wp2_with (first | (go_at_call 39; first | (refine (xnum_ox HS.out Hn.out).mono ?_; rintro e w3 ⟨rfl, h1⟩; have HL : Hid _ := h1; clear h1; obtain ⟨g0, g1, g2, f1, f2⟩ := HL.out.cells; have ge := HL.out.r.err) | (refine (Ref.xnum_a H0.out Hv.out).mono ?_; rintro e w2 ⟨rfl, h1, k1⟩; have HS : Hid _ := ox_start (n := n) ((Keep.refl _ _).alloc _) h1 k1; clear h1 k1; obtain ⟨g0, g1, g2, f1, f2⟩ := HS.out.cells; have ge := HS.out.r.err)) | (go_at_call 40; refine (kind_any _ _).mono ?_; rw [Hk.out]; rintro e w9 ⟨rfl, rfl⟩) | (refine wl_storeRow info_msg rfl rfl rfl rfl rfl rfl (by simp [Value.oneCell']) HS.out.rv rfl ?_) | (refine wl_storeRow info_msg rfl rfl rfl rfl rfl rfl (by simp [Value.oneCell']) HE.out.rv rfl ?_) | (go_at_call 42; refine (xtext_ox HS.out Ht.out).mono ?_; rintro e w4 ⟨rfl, h1⟩; have HL : Hid _ := h1; clear h1; obtain ⟨g0, g1, g2, f1, f2⟩ := HL.out.cells) | (go_at_call 43; refine (xend_ox HL.out He.out).mono ?_; rintro e w5 ⟨rfl, h1⟩; have HE : Hid _ := h1; clear h1; obtain ⟨g0, g1, g2, f1, f2⟩ := HE.out.cells) | (go_at_call 18; refine (rcheck_ox HE.out Hc.out).mono ?_; rintro e w6 ⟨rfl, h1⟩; have HE : Hid _ := h1; clear h1; obtain ⟨g0, g1, g2, f1, f2⟩ := HE.out.cells))
  go_loopw [7] (fun i wr => ∃ (k : Nat) (va : Option Addr) (vc : Nat), k ≤ n2 ∧ i = .int .i64 k ∧ OX w wr s (rdIds s a2 b2 k).2.1 (rdIds s a2 b2 k).2.2 n (.slice va k vc) ByteArray.empty (rdIds s a2 b2 k).1 w2.heap.size) (fun i _ => n2 - (intOf i).toNat)
  case atStart => exact ⟨0, none, 0, Nat.zero_le _, rfl, HL.out⟩
  case round =>
    obtain ⟨k, va, vc, hk, rfl, hrel⟩ := hrel
    have HX : Hid _ := hrel
    clear hrel
    by_cases hlt : k < n2
    · obtain ⟨p, hp⟩ : ∃ p, rdIds s a2 b2 k = p := ⟨_, rfl⟩
      obtain ⟨l, a, bb⟩ := p
      obtain ⟨q, hq⟩ : ∃ q, rraw s a bb 32 = q := ⟨_, rfl⟩
      obtain ⟨x, a', b'⟩ := q
      have hx : x.size ≤ 32 := by have := rraw_32 s a bb; rw [hq] at this; exact this
      have hll : l.length = k := by have := rdIds_len s a2 b2 k; rw [hp] at this; exact this
      have HS2 : Hid _ := rdIds_step hp hq
      have Hq : Hid _ := hq
      have HX : Hid (OX w wr s a bb n (.slice va k vc) ByteArray.empty l w2.heap.size) := by have := HX.out; rw [hp] at this; exact this
      have Hpl : Hid _ := pad_len x.data.toList (by rw [Array.length_toList]; exact hx)
      obtain ⟨g0, g1, g2, f1, f2⟩ := HX.out.cells
      clear hp hq
      go_wp2
      refine Txt.wp_region_text1 (fun w' => w'.cell? ⟨w2.heap.size, 1, none⟩ = some (.slice va k vc)) [0, 2, 0, 4, 3, 4, 0, 4] (by kernel_rfl) (by kernel_rfl) g1 ?_
      simp only [List.dropLast]
      repeat (first
        | (refine Txt.tl_pure (v := ?_) (by rfl) ?_ ?_; rotate_left; (focus (intro _; go_simp; try with_reducible rfl)); simp only [Act.put, List.setIfInBounds_toArray, List.set_cons_zero, List.set_cons_succ])
        | (refine Txt.tl_skip (by rfl) trivial ?_; simp only [Act.put, List.setIfInBounds_toArray, List.set_cons_zero, List.set_cons_succ])
        | (refine Txt.tl_load (v := ?_) (by rfl) (by rfl) (by rfl) (by kernel_rfl) ?_ ?_; rotate_left; (focus (first | assumption | (go_simp; done) | (go_simp; with_reducible rfl))); simp only [Act.put, List.setIfInBounds_toArray, List.set_cons_zero, List.set_cons_succ])
        | (refine Txt.tl_alloc (by rfl) ?_; go_simp; refine ⟨by (first | exact Txt.Le.alloc_drew _ _ | exact Txt.Le.alloc _ _), ?_⟩))
      refine Txt.tl_loadS (v := .slice va k vc) (by rfl) (by rfl) (by rfl) (by kernel_rfl) (fun _ h => h) ?_
      simp only [Act.put, List.setIfInBounds_toArray, List.set_cons_zero, List.set_cons_succ]
      repeat (first
        | (refine Txt.tl_pure (v := ?_) (by rfl) ?_ ?_; rotate_left; (focus (intro _; go_simp; try with_reducible rfl)); simp only [Act.put, List.setIfInBounds_toArray, List.set_cons_zero, List.set_cons_succ])
        | (refine Txt.tl_skip (by rfl) trivial ?_; simp only [Act.put, List.setIfInBounds_toArray, List.set_cons_zero, List.set_cons_succ])
        | (refine Txt.tl_load (v := ?_) (by rfl) (by rfl) (by rfl) (by kernel_rfl) ?_ ?_; rotate_left; (focus (first | assumption | (go_simp; done) | (go_simp; with_reducible rfl))); simp only [Act.put, List.setIfInBounds_toArray, List.set_cons_zero, List.set_cons_succ])
        | (refine Txt.tl_alloc (by rfl) ?_; go_simp; refine ⟨by (first | exact Txt.Le.alloc_drew _ _ | exact Txt.Le.alloc _ _), ?_⟩))
      refine Txt.tl_loud (by rfl) ?_
      go_simp
      refine (xid_ox (HX.out.calm (Keep.refl _ _).drew) Hq.out).mono ?_
      rintro e w4 ⟨rfl, h1⟩
      have H4 : Hid _ := h1
      clear h1
      obtain ⟨g0, g1, g2, f1, f2⟩ := H4.out.cells
      dsimp only
      refine ⟨g1, ?_⟩
      repeat (first
        | (refine Txt.tl_pure (v := ?_) (by rfl) ?_ ?_; rotate_left; (focus (intro _; go_simp; try with_reducible rfl)); simp only [Act.put, List.setIfInBounds_toArray, List.set_cons_zero, List.set_cons_succ])
        | (refine Txt.tl_skip (by rfl) trivial ?_; simp only [Act.put, List.setIfInBounds_toArray, List.set_cons_zero, List.set_cons_succ])
        | (refine Txt.tl_load (v := ?_) (by rfl) (by rfl) (by rfl) (by kernel_rfl) ?_ ?_; rotate_left; (focus (first | assumption | (go_simp; done) | (go_simp; with_reducible rfl))); simp only [Act.put, List.setIfInBounds_toArray, List.set_cons_zero, List.set_cons_succ])
        | (refine Txt.tl_alloc (by rfl) ?_; go_simp; refine ⟨by (first | exact Txt.Le.alloc_drew _ _ | exact Txt.Le.alloc _ _), ?_⟩))
      refine Txt.tl_alloc (by rfl) ?_
      refine Ids.wp_build rfl Hpl.out rfl ?_
      have H5 : Hid _ := H4.out.calm ((Keep.refl (fun _ => False) w4).alloc (.cells ((pad x.data.toList).map bv).toArray 41))
      obtain ⟨g0, g1, g2, f1, f2⟩ := H5.out.cells
      refine ⟨⟨Txt.Le.alloc _ _, g1⟩, ?_⟩
      simp only [Act.put, List.setIfInBounds_toArray, List.set_cons_zero, List.set_cons_succ]
      refine Txt.tl_loud (by rfl) ?_
      refine wp_app1 rfl rfl H5.out.own rfl Hpl.out (heap_alloc_new _ _) (by omega) ?_
      intro v' w6 h1 k1 h3
      obtain ⟨ya, yc, hy, _, _⟩ := h1.at
      rw [List.length_append, hll] at hy
      have H6 : Hid _ := H5.out.append k1 h1 h3
      have hb6 := k1.get H5.out.m (fun e => (H5.out.new _ e).2 rfl)
      have g1' : w6.cell? ⟨w2.heap.size, 1, none⟩ = some (.slice va k vc) := by rw [cell_of hb6]; rfl
      have f1' : w6.frozen? ⟨w2.heap.size, 1, none⟩ = false := free_of hb6
      clear h1 k1 h3 hb6
      subst hy
      refine ⟨g1', ?_⟩
      simp only [Act.put, List.setIfInBounds_toArray, List.set_cons_zero, List.set_cons_succ]
      repeat (first
        | (refine Txt.tl_pure (v := ?_) (by rfl) ?_ ?_; rotate_left; (focus (intro _; go_simp; try with_reducible rfl)); simp only [Act.put, List.setIfInBounds_toArray, List.set_cons_zero, List.set_cons_succ])
        | (refine Txt.tl_skip (by rfl) trivial ?_; simp only [Act.put, List.setIfInBounds_toArray, List.set_cons_zero, List.set_cons_succ])
        | (refine Txt.tl_load (v := ?_) (by rfl) (by rfl) (by rfl) (by kernel_rfl) ?_ ?_; rotate_left; (focus (first | assumption | (go_simp; done) | (go_simp; with_reducible rfl))); simp only [Act.put, List.setIfInBounds_toArray, List.set_cons_zero, List.set_cons_succ])
        | (refine Txt.tl_alloc (by rfl) ?_; go_simp; refine ⟨by (first | exact Txt.Le.alloc_drew _ _ | exact Txt.Le.alloc _ _), ?_⟩))
      refine Txt.tl_nil ?_
      refine Txt.tl_last (by rfl) (by rfl) ?_
      go_simp
      go_wp2
      go_roundw
      case rel => exact ⟨k + 1, ya, yc, by omega, rfl, by rw [HS2.out]; exact H6.out⟩
      case measure => simp [intOf]; omega
    · obtain rfl : k = n2 := by omega
      obtain ⟨g0, g1, g2, f1, f2⟩ := HX.out.cells
      go_wp2_with (first | (go_at_call 39; first | (refine (xnum_ox HS.out Hn.out).mono ?_; rintro e w3 ⟨rfl, h1⟩; have HL : Hid _ := h1; clear h1; obtain ⟨g0, g1, g2, f1, f2⟩ := HL.out.cells; have ge := HL.out.r.err) | (refine (Ref.xnum_a H0.out Hv.out).mono ?_; rintro e w2 ⟨rfl, h1, k1⟩; have HS : Hid _ := ox_start (n := n) ((Keep.refl _ _).alloc _) h1 k1; clear h1 k1; obtain ⟨g0, g1, g2, f1, f2⟩ := HS.out.cells; have ge := HS.out.r.err)) | (go_at_call 40; refine (kind_any _ _).mono ?_; rw [Hk.out]; rintro e w9 ⟨rfl, rfl⟩) | (refine wl_storeRow info_msg rfl rfl rfl rfl rfl rfl (by simp [Value.oneCell']) HS.out.rv rfl ?_) | (refine wl_storeRow info_msg rfl rfl rfl rfl rfl rfl (by simp [Value.oneCell']) HE.out.rv rfl ?_) | (go_at_call 42; refine (xtext_ox HS.out Ht.out).mono ?_; rintro e w4 ⟨rfl, h1⟩; have HL : Hid _ := h1; clear h1; obtain ⟨g0, g1, g2, f1, f2⟩ := HL.out.cells) | (go_at_call 43; refine (xend_ox HX.out He.out).mono ?_; rintro e w5 ⟨rfl, h1⟩; have HE : Hid _ := h1; clear h1; obtain ⟨g0, g1, g2, f1, f2⟩ := HE.out.cells) | (go_at_call 18; refine (rcheck_ox HE.out Hc.out).mono ?_; rintro e w6 ⟨rfl, h1⟩; have HE : Hid _ := h1; clear h1; obtain ⟨g0, g1, g2, f1, f2⟩ := HE.out.cells))
      refine bodyPost_ret (res_me rfl _ _ w.heap.size #[.int .i64 0, .slice none 0 0, .string ByteArray.empty] rfl rfl (setRow_heap _ _ _ _ _ _ HE.out.rv) _ rfl) rfl ?_
      exact ⟨rfl, HE.out.keep.setRow _ _ (fun h => by omega)⟩
set_option maxRecDepth 100000 in
set_option maxHeartbeats 2000000 in
theorem rof_ids_bad (w : World) (s : ByteArray) (h : s.size ≤ 1024) (n a1 n2 a2 : Nat) (b2 c : Int) (hv : rnum s 0 0 1 = (n, a1, 0)) (hk : knd n = 1) (hn : rnum s a1 0 1 = (n2, a2, b2)) (he : endv s (rdIds s a2 b2 n2).2.1 (rdIds s a2 b2 n2).2.2 = 0) (hc : chk n n2 ByteArray.empty = c) (hc0 : c ≠ 0) :
    Calls Try.prog 13 #[.string s] w fun en w' => en = .returned (mz c) ∧ Keep (fun _ => False) w w' := by
  have hn2 : n2 < 256 := by have := rnum1_lt s a1 0; rw [hn] at this; exact this
  have Hv : Hid _ := hv
  have Hk : Hid _ := hk
  have Hn : Hid _ := hn
  have He : Hid _ := he
  have Hc : Hid _ := hc
  have he2 : (c != 0) = true := by simpa using hc0
  have H0 : Hid _ := hx0 w s h
  clear hv hk hn he hc hc0
  go_enter Try.func13, Try.ntmps13
  go_wp2_with (first | (go_at_call 39; first | (refine (xnum_ox HS.out Hn.out).mono ?_; rintro e w3 ⟨rfl, h1⟩; have HL : Hid _ := h1; clear h1; obtain ⟨g0, g1, g2, f1, f2⟩ := HL.out.cells; have ge := HL.out.r.err) | (refine (Ref.xnum_a H0.out Hv.out).mono ?_; rintro e w2 ⟨rfl, h1, k1⟩; have HS : Hid _ := ox_start (n := n) ((Keep.refl _ _).alloc _) h1 k1; clear h1 k1; obtain ⟨g0, g1, g2, f1, f2⟩ := HS.out.cells; have ge := HS.out.r.err)) | (go_at_call 40; refine (kind_any _ _).mono ?_; rw [Hk.out]; rintro e w9 ⟨rfl, rfl⟩) | (refine wl_storeRow info_msg rfl rfl rfl rfl rfl rfl (by simp [Value.oneCell']) HS.out.rv rfl ?_) | (refine wl_storeRow info_msg rfl rfl rfl rfl rfl rfl (by simp [Value.oneCell']) HE.out.rv rfl ?_) | (go_at_call 42; refine (xtext_ox HS.out Ht.out).mono ?_; rintro e w4 ⟨rfl, h1⟩; have HL : Hid _ := h1; clear h1; obtain ⟨g0, g1, g2, f1, f2⟩ := HL.out.cells) | (go_at_call 43; refine (xend_ox HL.out He.out).mono ?_; rintro e w5 ⟨rfl, h1⟩; have HE : Hid _ := h1; clear h1; obtain ⟨g0, g1, g2, f1, f2⟩ := HE.out.cells) | (go_at_call 18; refine (rcheck_ox HE.out Hc.out).mono ?_; rintro e w6 ⟨rfl, h1⟩; have HE : Hid _ := h1; clear h1; obtain ⟨g0, g1, g2, f1, f2⟩ := HE.out.cells))
  go_loopw [7] (fun i wr => ∃ (k : Nat) (va : Option Addr) (vc : Nat), k ≤ n2 ∧ i = .int .i64 k ∧ OX w wr s (rdIds s a2 b2 k).2.1 (rdIds s a2 b2 k).2.2 n (.slice va k vc) ByteArray.empty (rdIds s a2 b2 k).1 w2.heap.size) (fun i _ => n2 - (intOf i).toNat)
  case atStart => exact ⟨0, none, 0, Nat.zero_le _, rfl, HL.out⟩
  case round =>
    obtain ⟨k, va, vc, hk, rfl, hrel⟩ := hrel
    have HX : Hid _ := hrel
    clear hrel
    by_cases hlt : k < n2
    · obtain ⟨p, hp⟩ : ∃ p, rdIds s a2 b2 k = p := ⟨_, rfl⟩
      obtain ⟨l, a, bb⟩ := p
      obtain ⟨q, hq⟩ : ∃ q, rraw s a bb 32 = q := ⟨_, rfl⟩
      obtain ⟨x, a', b'⟩ := q
      have hx : x.size ≤ 32 := by have := rraw_32 s a bb; rw [hq] at this; exact this
      have hll : l.length = k := by have := rdIds_len s a2 b2 k; rw [hp] at this; exact this
      have HS2 : Hid _ := rdIds_step hp hq
      have Hq : Hid _ := hq
      have HX : Hid (OX w wr s a bb n (.slice va k vc) ByteArray.empty l w2.heap.size) := by have := HX.out; rw [hp] at this; exact this
      have Hpl : Hid _ := pad_len x.data.toList (by rw [Array.length_toList]; exact hx)
      obtain ⟨g0, g1, g2, f1, f2⟩ := HX.out.cells
      clear hp hq
      go_wp2
      refine Txt.wp_region_text1 (fun w' => w'.cell? ⟨w2.heap.size, 1, none⟩ = some (.slice va k vc)) [0, 2, 0, 4, 3, 4, 0, 4] (by kernel_rfl) (by kernel_rfl) g1 ?_
      simp only [List.dropLast]
      repeat (first
        | (refine Txt.tl_pure (v := ?_) (by rfl) ?_ ?_; rotate_left; (focus (intro _; go_simp; try with_reducible rfl)); simp only [Act.put, List.setIfInBounds_toArray, List.set_cons_zero, List.set_cons_succ])
        | (refine Txt.tl_skip (by rfl) trivial ?_; simp only [Act.put, List.setIfInBounds_toArray, List.set_cons_zero, List.set_cons_succ])
        | (refine Txt.tl_load (v := ?_) (by rfl) (by rfl) (by rfl) (by kernel_rfl) ?_ ?_; rotate_left; (focus (first | assumption | (go_simp; done) | (go_simp; with_reducible rfl))); simp only [Act.put, List.setIfInBounds_toArray, List.set_cons_zero, List.set_cons_succ])
        | (refine Txt.tl_alloc (by rfl) ?_; go_simp; refine ⟨by (first | exact Txt.Le.alloc_drew _ _ | exact Txt.Le.alloc _ _), ?_⟩))
      refine Txt.tl_loadS (v := .slice va k vc) (by rfl) (by rfl) (by rfl) (by kernel_rfl) (fun _ h => h) ?_
      simp only [Act.put, List.setIfInBounds_toArray, List.set_cons_zero, List.set_cons_succ]
      repeat (first
        | (refine Txt.tl_pure (v := ?_) (by rfl) ?_ ?_; rotate_left; (focus (intro _; go_simp; try with_reducible rfl)); simp only [Act.put, List.setIfInBounds_toArray, List.set_cons_zero, List.set_cons_succ])
        | (refine Txt.tl_skip (by rfl) trivial ?_; simp only [Act.put, List.setIfInBounds_toArray, List.set_cons_zero, List.set_cons_succ])
        | (refine Txt.tl_load (v := ?_) (by rfl) (by rfl) (by rfl) (by kernel_rfl) ?_ ?_; rotate_left; (focus (first | assumption | (go_simp; done) | (go_simp; with_reducible rfl))); simp only [Act.put, List.setIfInBounds_toArray, List.set_cons_zero, List.set_cons_succ])
        | (refine Txt.tl_alloc (by rfl) ?_; go_simp; refine ⟨by (first | exact Txt.Le.alloc_drew _ _ | exact Txt.Le.alloc _ _), ?_⟩))
      refine Txt.tl_loud (by rfl) ?_
      go_simp
      refine (xid_ox (HX.out.calm (Keep.refl _ _).drew) Hq.out).mono ?_
      rintro e w4 ⟨rfl, h1⟩
      have H4 : Hid _ := h1
      clear h1
      obtain ⟨g0, g1, g2, f1, f2⟩ := H4.out.cells
      dsimp only
      refine ⟨g1, ?_⟩
      repeat (first
        | (refine Txt.tl_pure (v := ?_) (by rfl) ?_ ?_; rotate_left; (focus (intro _; go_simp; try with_reducible rfl)); simp only [Act.put, List.setIfInBounds_toArray, List.set_cons_zero, List.set_cons_succ])
        | (refine Txt.tl_skip (by rfl) trivial ?_; simp only [Act.put, List.setIfInBounds_toArray, List.set_cons_zero, List.set_cons_succ])
        | (refine Txt.tl_load (v := ?_) (by rfl) (by rfl) (by rfl) (by kernel_rfl) ?_ ?_; rotate_left; (focus (first | assumption | (go_simp; done) | (go_simp; with_reducible rfl))); simp only [Act.put, List.setIfInBounds_toArray, List.set_cons_zero, List.set_cons_succ])
        | (refine Txt.tl_alloc (by rfl) ?_; go_simp; refine ⟨by (first | exact Txt.Le.alloc_drew _ _ | exact Txt.Le.alloc _ _), ?_⟩))
      refine Txt.tl_alloc (by rfl) ?_
      refine Ids.wp_build rfl Hpl.out rfl ?_
      have H5 : Hid _ := H4.out.calm ((Keep.refl (fun _ => False) w4).alloc (.cells ((pad x.data.toList).map bv).toArray 41))
      obtain ⟨g0, g1, g2, f1, f2⟩ := H5.out.cells
      refine ⟨⟨Txt.Le.alloc _ _, g1⟩, ?_⟩
      simp only [Act.put, List.setIfInBounds_toArray, List.set_cons_zero, List.set_cons_succ]
      refine Txt.tl_loud (by rfl) ?_
      refine wp_app1 rfl rfl H5.out.own rfl Hpl.out (heap_alloc_new _ _) (by omega) ?_
      intro v' w6 h1 k1 h3
      obtain ⟨ya, yc, hy, _, _⟩ := h1.at
      rw [List.length_append, hll] at hy
      have H6 : Hid _ := H5.out.append k1 h1 h3
      have hb6 := k1.get H5.out.m (fun e => (H5.out.new _ e).2 rfl)
      have g1' : w6.cell? ⟨w2.heap.size, 1, none⟩ = some (.slice va k vc) := by rw [cell_of hb6]; rfl
      have f1' : w6.frozen? ⟨w2.heap.size, 1, none⟩ = false := free_of hb6
      clear h1 k1 h3 hb6
      subst hy
      refine ⟨g1', ?_⟩
      simp only [Act.put, List.setIfInBounds_toArray, List.set_cons_zero, List.set_cons_succ]
      repeat (first
        | (refine Txt.tl_pure (v := ?_) (by rfl) ?_ ?_; rotate_left; (focus (intro _; go_simp; try with_reducible rfl)); simp only [Act.put, List.setIfInBounds_toArray, List.set_cons_zero, List.set_cons_succ])
        | (refine Txt.tl_skip (by rfl) trivial ?_; simp only [Act.put, List.setIfInBounds_toArray, List.set_cons_zero, List.set_cons_succ])
        | (refine Txt.tl_load (v := ?_) (by rfl) (by rfl) (by rfl) (by kernel_rfl) ?_ ?_; rotate_left; (focus (first | assumption | (go_simp; done) | (go_simp; with_reducible rfl))); simp only [Act.put, List.setIfInBounds_toArray, List.set_cons_zero, List.set_cons_succ])
        | (refine Txt.tl_alloc (by rfl) ?_; go_simp; refine ⟨by (first | exact Txt.Le.alloc_drew _ _ | exact Txt.Le.alloc _ _), ?_⟩))
      refine Txt.tl_nil ?_
      refine Txt.tl_last (by rfl) (by rfl) ?_
      go_simp
      go_wp2
      go_roundw
      case rel => exact ⟨k + 1, ya, yc, by omega, rfl, by rw [HS2.out]; exact H6.out⟩
      case measure => simp [intOf]; omega
    · obtain rfl : k = n2 := by omega
      obtain ⟨g0, g1, g2, f1, f2⟩ := HX.out.cells
      go_wp2_with (first | (go_at_call 39; first | (refine (xnum_ox HS.out Hn.out).mono ?_; rintro e w3 ⟨rfl, h1⟩; have HL : Hid _ := h1; clear h1; obtain ⟨g0, g1, g2, f1, f2⟩ := HL.out.cells; have ge := HL.out.r.err) | (refine (Ref.xnum_a H0.out Hv.out).mono ?_; rintro e w2 ⟨rfl, h1, k1⟩; have HS : Hid _ := ox_start (n := n) ((Keep.refl _ _).alloc _) h1 k1; clear h1 k1; obtain ⟨g0, g1, g2, f1, f2⟩ := HS.out.cells; have ge := HS.out.r.err)) | (go_at_call 40; refine (kind_any _ _).mono ?_; rw [Hk.out]; rintro e w9 ⟨rfl, rfl⟩) | (refine wl_storeRow info_msg rfl rfl rfl rfl rfl rfl (by simp [Value.oneCell']) HS.out.rv rfl ?_) | (refine wl_storeRow info_msg rfl rfl rfl rfl rfl rfl (by simp [Value.oneCell']) HE.out.rv rfl ?_) | (go_at_call 42; refine (xtext_ox HS.out Ht.out).mono ?_; rintro e w4 ⟨rfl, h1⟩; have HL : Hid _ := h1; clear h1; obtain ⟨g0, g1, g2, f1, f2⟩ := HL.out.cells) | (go_at_call 43; refine (xend_ox HX.out He.out).mono ?_; rintro e w5 ⟨rfl, h1⟩; have HE : Hid _ := h1; clear h1; obtain ⟨g0, g1, g2, f1, f2⟩ := HE.out.cells) | (go_at_call 18; refine (rcheck_ox HE.out Hc.out).mono ?_; rintro e w6 ⟨rfl, h1⟩; have HE : Hid _ := h1; clear h1; obtain ⟨g0, g1, g2, f1, f2⟩ := HE.out.cells))
      refine bodyPost_ret (res_me rfl _ _ w.heap.size #[.int .i64 0, .slice none 0 0, .string ByteArray.empty] rfl rfl (setRow_heap _ _ _ _ _ _ HE.out.rv) _ rfl) rfl ?_
      exact ⟨rfl, HE.out.keep.setRow _ _ (fun h => by omega)⟩
set_option maxRecDepth 100000 in
set_option maxHeartbeats 2000000 in
theorem rof_ids_ok (w : World) (s : ByteArray) (h : s.size ≤ 1024) (n a1 n2 a2 : Nat) (b2 : Int) (hv : rnum s 0 0 1 = (n, a1, 0)) (hk : knd n = 1) (hn : rnum s a1 0 1 = (n2, a2, b2)) (he : endv s (rdIds s a2 b2 n2).2.1 (rdIds s a2 b2 n2).2.2 = 0) (hc : chk n n2 ByteArray.empty = 0) :
    Calls Try.prog 13 #[.string s] w fun en w' => ∃ va vc, en = .returned (.tuple #[.agg #[.int .i64 n, .slice va n2 vc, .string ByteArray.empty], .int .i64 0]) ∧ Own w' (.slice va n2 vc) (rdIds s a2 b2 n2).1 ∧ (∀ y, (Value.slice va n2 vc).ownBlock = some y → w.heap.size ≤ y) ∧ Keep (fun _ => False) w w' := by
  have hn2 : n2 < 256 := by have := rnum1_lt s a1 0; rw [hn] at this; exact this
  have Hv : Hid _ := hv
  have Hk : Hid _ := hk
  have Hn : Hid _ := hn
  have He : Hid _ := he
  have Hc : Hid _ := hc
  have H0 : Hid _ := hx0 w s h
  clear hv hk hn he hc
  go_enter Try.func13, Try.ntmps13
  go_wp2_with (first | (go_at_call 39; first | (refine (xnum_ox HS.out Hn.out).mono ?_; rintro e w3 ⟨rfl, h1⟩; have HL : Hid _ := h1; clear h1; obtain ⟨g0, g1, g2, f1, f2⟩ := HL.out.cells; have ge := HL.out.r.err) | (refine (Ref.xnum_a H0.out Hv.out).mono ?_; rintro e w2 ⟨rfl, h1, k1⟩; have HS : Hid _ := ox_start (n := n) ((Keep.refl _ _).alloc _) h1 k1; clear h1 k1; obtain ⟨g0, g1, g2, f1, f2⟩ := HS.out.cells; have ge := HS.out.r.err)) | (go_at_call 40; refine (kind_any _ _).mono ?_; rw [Hk.out]; rintro e w9 ⟨rfl, rfl⟩) | (refine wl_storeRow info_msg rfl rfl rfl rfl rfl rfl (by simp [Value.oneCell']) HS.out.rv rfl ?_) | (refine wl_storeRow info_msg rfl rfl rfl rfl rfl rfl (by simp [Value.oneCell']) HE.out.rv rfl ?_) | (go_at_call 42; refine (xtext_ox HS.out Ht.out).mono ?_; rintro e w4 ⟨rfl, h1⟩; have HL : Hid _ := h1; clear h1; obtain ⟨g0, g1, g2, f1, f2⟩ := HL.out.cells) | (go_at_call 43; refine (xend_ox HL.out He.out).mono ?_; rintro e w5 ⟨rfl, h1⟩; have HE : Hid _ := h1; clear h1; obtain ⟨g0, g1, g2, f1, f2⟩ := HE.out.cells) | (go_at_call 18; refine (rcheck_ox HE.out Hc.out).mono ?_; rintro e w6 ⟨rfl, h1⟩; have HE : Hid _ := h1; clear h1; obtain ⟨g0, g1, g2, f1, f2⟩ := HE.out.cells))
  go_loopw [7] (fun i wr => ∃ (k : Nat) (va : Option Addr) (vc : Nat), k ≤ n2 ∧ i = .int .i64 k ∧ OX w wr s (rdIds s a2 b2 k).2.1 (rdIds s a2 b2 k).2.2 n (.slice va k vc) ByteArray.empty (rdIds s a2 b2 k).1 w2.heap.size) (fun i _ => n2 - (intOf i).toNat)
  case atStart => exact ⟨0, none, 0, Nat.zero_le _, rfl, HL.out⟩
  case round =>
    obtain ⟨k, va, vc, hk, rfl, hrel⟩ := hrel
    have HX : Hid _ := hrel
    clear hrel
    by_cases hlt : k < n2
    · obtain ⟨p, hp⟩ : ∃ p, rdIds s a2 b2 k = p := ⟨_, rfl⟩
      obtain ⟨l, a, bb⟩ := p
      obtain ⟨q, hq⟩ : ∃ q, rraw s a bb 32 = q := ⟨_, rfl⟩
      obtain ⟨x, a', b'⟩ := q
      have hx : x.size ≤ 32 := by have := rraw_32 s a bb; rw [hq] at this; exact this
      have hll : l.length = k := by have := rdIds_len s a2 b2 k; rw [hp] at this; exact this
      have HS2 : Hid _ := rdIds_step hp hq
      have Hq : Hid _ := hq
      have HX : Hid (OX w wr s a bb n (.slice va k vc) ByteArray.empty l w2.heap.size) := by have := HX.out; rw [hp] at this; exact this
      have Hpl : Hid _ := pad_len x.data.toList (by rw [Array.length_toList]; exact hx)
      obtain ⟨g0, g1, g2, f1, f2⟩ := HX.out.cells
      clear hp hq
      go_wp2
      refine Txt.wp_region_text1 (fun w' => w'.cell? ⟨w2.heap.size, 1, none⟩ = some (.slice va k vc)) [0, 2, 0, 4, 3, 4, 0, 4] (by kernel_rfl) (by kernel_rfl) g1 ?_
      simp only [List.dropLast]
      repeat (first
        | (refine Txt.tl_pure (v := ?_) (by rfl) ?_ ?_; rotate_left; (focus (intro _; go_simp; try with_reducible rfl)); simp only [Act.put, List.setIfInBounds_toArray, List.set_cons_zero, List.set_cons_succ])
        | (refine Txt.tl_skip (by rfl) trivial ?_; simp only [Act.put, List.setIfInBounds_toArray, List.set_cons_zero, List.set_cons_succ])
        | (refine Txt.tl_load (v := ?_) (by rfl) (by rfl) (by rfl) (by kernel_rfl) ?_ ?_; rotate_left; (focus (first | assumption | (go_simp; done) | (go_simp; with_reducible rfl))); simp only [Act.put, List.setIfInBounds_toArray, List.set_cons_zero, List.set_cons_succ])
        | (refine Txt.tl_alloc (by rfl) ?_; go_simp; refine ⟨by (first | exact Txt.Le.alloc_drew _ _ | exact Txt.Le.alloc _ _), ?_⟩))
      refine Txt.tl_loadS (v := .slice va k vc) (by rfl) (by rfl) (by rfl) (by kernel_rfl) (fun _ h => h) ?_
      simp only [Act.put, List.setIfInBounds_toArray, List.set_cons_zero, List.set_cons_succ]
      repeat (first
        | (refine Txt.tl_pure (v := ?_) (by rfl) ?_ ?_; rotate_left; (focus (intro _; go_simp; try with_reducible rfl)); simp only [Act.put, List.setIfInBounds_toArray, List.set_cons_zero, List.set_cons_succ])
        | (refine Txt.tl_skip (by rfl) trivial ?_; simp only [Act.put, List.setIfInBounds_toArray, List.set_cons_zero, List.set_cons_succ])
        | (refine Txt.tl_load (v := ?_) (by rfl) (by rfl) (by rfl) (by kernel_rfl) ?_ ?_; rotate_left; (focus (first | assumption | (go_simp; done) | (go_simp; with_reducible rfl))); simp only [Act.put, List.setIfInBounds_toArray, List.set_cons_zero, List.set_cons_succ])
        | (refine Txt.tl_alloc (by rfl) ?_; go_simp; refine ⟨by (first | exact Txt.Le.alloc_drew _ _ | exact Txt.Le.alloc _ _), ?_⟩))
      refine Txt.tl_loud (by rfl) ?_
      go_simp
      refine (xid_ox (HX.out.calm (Keep.refl _ _).drew) Hq.out).mono ?_
      rintro e w4 ⟨rfl, h1⟩
      have H4 : Hid _ := h1
      clear h1
      obtain ⟨g0, g1, g2, f1, f2⟩ := H4.out.cells
      dsimp only
      refine ⟨g1, ?_⟩
      repeat (first
        | (refine Txt.tl_pure (v := ?_) (by rfl) ?_ ?_; rotate_left; (focus (intro _; go_simp; try with_reducible rfl)); simp only [Act.put, List.setIfInBounds_toArray, List.set_cons_zero, List.set_cons_succ])
        | (refine Txt.tl_skip (by rfl) trivial ?_; simp only [Act.put, List.setIfInBounds_toArray, List.set_cons_zero, List.set_cons_succ])
        | (refine Txt.tl_load (v := ?_) (by rfl) (by rfl) (by rfl) (by kernel_rfl) ?_ ?_; rotate_left; (focus (first | assumption | (go_simp; done) | (go_simp; with_reducible rfl))); simp only [Act.put, List.setIfInBounds_toArray, List.set_cons_zero, List.set_cons_succ])
        | (refine Txt.tl_alloc (by rfl) ?_; go_simp; refine ⟨by (first | exact Txt.Le.alloc_drew _ _ | exact Txt.Le.alloc _ _), ?_⟩))
      refine Txt.tl_alloc (by rfl) ?_
      refine Ids.wp_build rfl Hpl.out rfl ?_
      have H5 : Hid _ := H4.out.calm ((Keep.refl (fun _ => False) w4).alloc (.cells ((pad x.data.toList).map bv).toArray 41))
      obtain ⟨g0, g1, g2, f1, f2⟩ := H5.out.cells
      refine ⟨⟨Txt.Le.alloc _ _, g1⟩, ?_⟩
      simp only [Act.put, List.setIfInBounds_toArray, List.set_cons_zero, List.set_cons_succ]
      refine Txt.tl_loud (by rfl) ?_
      refine wp_app1 rfl rfl H5.out.own rfl Hpl.out (heap_alloc_new _ _) (by omega) ?_
      intro v' w6 h1 k1 h3
      obtain ⟨ya, yc, hy, _, _⟩ := h1.at
      rw [List.length_append, hll] at hy
      have H6 : Hid _ := H5.out.append k1 h1 h3
      have hb6 := k1.get H5.out.m (fun e => (H5.out.new _ e).2 rfl)
      have g1' : w6.cell? ⟨w2.heap.size, 1, none⟩ = some (.slice va k vc) := by rw [cell_of hb6]; rfl
      have f1' : w6.frozen? ⟨w2.heap.size, 1, none⟩ = false := free_of hb6
      clear h1 k1 h3 hb6
      subst hy
      refine ⟨g1', ?_⟩
      simp only [Act.put, List.setIfInBounds_toArray, List.set_cons_zero, List.set_cons_succ]
      repeat (first
        | (refine Txt.tl_pure (v := ?_) (by rfl) ?_ ?_; rotate_left; (focus (intro _; go_simp; try with_reducible rfl)); simp only [Act.put, List.setIfInBounds_toArray, List.set_cons_zero, List.set_cons_succ])
        | (refine Txt.tl_skip (by rfl) trivial ?_; simp only [Act.put, List.setIfInBounds_toArray, List.set_cons_zero, List.set_cons_succ])
        | (refine Txt.tl_load (v := ?_) (by rfl) (by rfl) (by rfl) (by kernel_rfl) ?_ ?_; rotate_left; (focus (first | assumption | (go_simp; done) | (go_simp; with_reducible rfl))); simp only [Act.put, List.setIfInBounds_toArray, List.set_cons_zero, List.set_cons_succ])
        | (refine Txt.tl_alloc (by rfl) ?_; go_simp; refine ⟨by (first | exact Txt.Le.alloc_drew _ _ | exact Txt.Le.alloc _ _), ?_⟩))
      refine Txt.tl_nil ?_
      refine Txt.tl_last (by rfl) (by rfl) ?_
      go_simp
      go_wp2
      go_roundw
      case rel => exact ⟨k + 1, ya, yc, by omega, rfl, by rw [HS2.out]; exact H6.out⟩
      case measure => simp [intOf]; omega
    · obtain rfl : k = n2 := by omega
      obtain ⟨g0, g1, g2, f1, f2⟩ := HX.out.cells
      go_wp2_with (first | (go_at_call 39; first | (refine (xnum_ox HS.out Hn.out).mono ?_; rintro e w3 ⟨rfl, h1⟩; have HL : Hid _ := h1; clear h1; obtain ⟨g0, g1, g2, f1, f2⟩ := HL.out.cells; have ge := HL.out.r.err) | (refine (Ref.xnum_a H0.out Hv.out).mono ?_; rintro e w2 ⟨rfl, h1, k1⟩; have HS : Hid _ := ox_start (n := n) ((Keep.refl _ _).alloc _) h1 k1; clear h1 k1; obtain ⟨g0, g1, g2, f1, f2⟩ := HS.out.cells; have ge := HS.out.r.err)) | (go_at_call 40; refine (kind_any _ _).mono ?_; rw [Hk.out]; rintro e w9 ⟨rfl, rfl⟩) | (refine wl_storeRow info_msg rfl rfl rfl rfl rfl rfl (by simp [Value.oneCell']) HS.out.rv rfl ?_) | (refine wl_storeRow info_msg rfl rfl rfl rfl rfl rfl (by simp [Value.oneCell']) HE.out.rv rfl ?_) | (go_at_call 42; refine (xtext_ox HS.out Ht.out).mono ?_; rintro e w4 ⟨rfl, h1⟩; have HL : Hid _ := h1; clear h1; obtain ⟨g0, g1, g2, f1, f2⟩ := HL.out.cells) | (go_at_call 43; refine (xend_ox HX.out He.out).mono ?_; rintro e w5 ⟨rfl, h1⟩; have HE : Hid _ := h1; clear h1; obtain ⟨g0, g1, g2, f1, f2⟩ := HE.out.cells) | (go_at_call 18; refine (rcheck_ox HE.out Hc.out).mono ?_; rintro e w6 ⟨rfl, h1⟩; have HE : Hid _ := h1; clear h1; obtain ⟨g0, g1, g2, f1, f2⟩ := HE.out.cells))
      refine bodyPost_ret (res_me rfl _ _ w.heap.size #[.int .i64 n, .slice va k vc, .string ByteArray.empty] rfl rfl (setRow_heap _ _ _ _ _ _ HE.out.rv) _ rfl) rfl ?_
      exact ⟨va, vc, rfl, Own.setRow' HE.out.own _ _ (fun y hy => by have := HE.out.new y hy; omega), fun y hy => by have := HE.out.new y hy; omega, HE.out.keep.setRow _ _ (fun h => by omega)⟩
end Ms
end Go.Proofs.Ytmnmemeldjbifaa
