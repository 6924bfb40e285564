/-
  msg.Of, where a message's kind was read.
-/
import Derived.Test.YthllhjdaknmlbaaMsg6
set_option linter.unusedVariables false
set_option linter.unusedSimpArgs false
namespace Go.Proofs.Ythllhjdaknmlbaa
open Go.RowKit
namespace Ms
open Oct Ids
open Ref (endv)

theorem Own.setRow' {w : World} {v : Value} {els : List (List UInt8)} (h : Own w v els) (g : Nat) (cs : Array Value) (hn : ∀ y, v.ownBlock = some y → y ≠ g) : Own (w.setRow g cs) v els :=
  h.keep ((Keep.refl (fun y => y = g) w).setRow g cs (fun _ => rfl)) (fun y hy e => hn y hy e)
set_option maxRecDepth 100000 in
set_option maxHeartbeats 1000000 in
theorem of_ids_end (w : World) (s : ByteArray) (h : s.size ≤ 1024) (n a1 n2 a2 : Nat) (b2 e : Int) (hv : rnum s 0 0 1 = (n, a1, 0)) (hk : knd n = 1) (hn : rnum s a1 0 1 = (n2, a2, b2)) (he : endv s (rdIds s a2 b2 n2).2.1 (rdIds s a2 b2 n2).2.2 = e) (he0 : e ≠ 0) :
    Calls Try.prog 10 #[.string s] w fun en w' => en = .returned (mz e) ∧ Keep (fun _ => False) w w' := by
  have Hv : Hid _ := hv
  have Hk : Hid _ := hk
  have Hn : Hid _ := hn
  have He : Hid _ := he
  have he1 : (e == 0) = false := by simpa using he0
  have he2 : (e != 0) = true := by simpa using he0
  clear hv hk hn he he0
  go_enter Try.func10, Try.ntmps10
  go_wp2_with (first | (go_at_call 24; refine (open_any _ s (by unfold maxLen; omega)).mono ?_; rintro e w1 ⟨rfl, h1, k1⟩; rw [size_alloc] at h1; have H1 : Hid _ := h1; have K1 : Hid _ := k1; clear h1 k1) | (go_at_call 25; refine (rnum_v _ _ s 0 0 1 _ _ _ H1.out Hv.out).mono ?_; rintro e w2 ⟨rfl, h1, k1⟩; have HS : Hid _ := os_start (n := n) K1.out h1 k1; clear h1 k1; obtain ⟨g0, g1, g2, f1, f2⟩ := HS.out.cells) | (go_at_call 26; refine (err_any _ _ s _ _ HS.out.r).mono ?_; rintro e w3 ⟨rfl, rfl⟩) | (go_at_call 11; refine (has_any _ _).mono ?_; rw [Hk.out]; rintro e w9 ⟨rfl, rfl⟩) | (refine wl_storeRow info_msg rfl rfl rfl rfl rfl rfl (by simp [Value.oneCell']) HS.out.rv rfl ?_) | (refine wl_storeRow info_msg rfl rfl rfl rfl rfl rfl (by simp [Value.oneCell']) HE.out.rv rfl ?_) | (go_at_call 27; refine (list_os HS.out Hn.out).mono ?_; rintro e w4 ⟨va, vc, rfl, h1⟩; have HL : Hid _ := h1; clear h1; obtain ⟨g0, g1, g2, f1, f2⟩ := HL.out.1.cells) | (go_at_call 28; refine (text_os HS.out Ht.out).mono ?_; rintro e w4 ⟨rfl, h1⟩; have HL : Hid _ := h1; clear h1; obtain ⟨g0, g1, g2, f1, f2⟩ := HL.out.cells) | (go_at_call 29; refine (end_os (HL.out.1.setIds HL.out.2.1 HL.out.2.2) He.out).mono ?_; rintro e w5 ⟨rfl, h1⟩; have HE : Hid _ := h1; clear h1; obtain ⟨g0, g1, g2, f1, f2⟩ := HE.out.cells) | (go_at_call 8; refine (check_os HE.out Hc.out).mono ?_; rintro e w6 ⟨rfl, h1⟩; have HE : Hid _ := h1; clear h1; obtain ⟨g0, g1, g2, f1, f2⟩ := HE.out.cells))
  refine bodyPost_ret (res_me rfl _ _ w.heap.size #[.int .i64 0, .slice none 0 0, .string ByteArray.empty] rfl rfl (setRow_heap _ _ _ _ _ _ HE.out.rv) _ rfl) rfl ?_
  exact ⟨rfl, HE.out.keep.setRow _ _ (fun h => by omega)⟩
set_option maxRecDepth 100000 in
set_option maxHeartbeats 1000000 in
theorem of_ids_bad (w : World) (s : ByteArray) (h : s.size ≤ 1024) (n a1 n2 a2 : Nat) (b2 c : Int) (hv : rnum s 0 0 1 = (n, a1, 0)) (hk : knd n = 1) (hn : rnum s a1 0 1 = (n2, a2, b2)) (he : endv s (rdIds s a2 b2 n2).2.1 (rdIds s a2 b2 n2).2.2 = 0) (hc : chk n n2 ByteArray.empty = c) (hc0 : c ≠ 0) :
    Calls Try.prog 10 #[.string s] w fun en w' => en = .returned (mz c) ∧ Keep (fun _ => False) w w' := by
  have Hv : Hid _ := hv
  have Hk : Hid _ := hk
  have Hn : Hid _ := hn
  have He : Hid _ := he
  have Hc : Hid _ := hc
  have he2 : (c != 0) = true := by simpa using hc0
  clear hv hk hn he hc hc0
  go_enter Try.func10, Try.ntmps10
  go_wp2_with (first | (go_at_call 24; refine (open_any _ s (by unfold maxLen; omega)).mono ?_; rintro e w1 ⟨rfl, h1, k1⟩; rw [size_alloc] at h1; have H1 : Hid _ := h1; have K1 : Hid _ := k1; clear h1 k1) | (go_at_call 25; refine (rnum_v _ _ s 0 0 1 _ _ _ H1.out Hv.out).mono ?_; rintro e w2 ⟨rfl, h1, k1⟩; have HS : Hid _ := os_start (n := n) K1.out h1 k1; clear h1 k1; obtain ⟨g0, g1, g2, f1, f2⟩ := HS.out.cells) | (go_at_call 26; refine (err_any _ _ s _ _ HS.out.r).mono ?_; rintro e w3 ⟨rfl, rfl⟩) | (go_at_call 11; refine (has_any _ _).mono ?_; rw [Hk.out]; rintro e w9 ⟨rfl, rfl⟩) | (refine wl_storeRow info_msg rfl rfl rfl rfl rfl rfl (by simp [Value.oneCell']) HS.out.rv rfl ?_) | (refine wl_storeRow info_msg rfl rfl rfl rfl rfl rfl (by simp [Value.oneCell']) HE.out.rv rfl ?_) | (go_at_call 27; refine (list_os HS.out Hn.out).mono ?_; rintro e w4 ⟨va, vc, rfl, h1⟩; have HL : Hid _ := h1; clear h1; obtain ⟨g0, g1, g2, f1, f2⟩ := HL.out.1.cells) | (go_at_call 28; refine (text_os HS.out Ht.out).mono ?_; rintro e w4 ⟨rfl, h1⟩; have HL : Hid _ := h1; clear h1; obtain ⟨g0, g1, g2, f1, f2⟩ := HL.out.cells) | (go_at_call 29; refine (end_os (HL.out.1.setIds HL.out.2.1 HL.out.2.2) He.out).mono ?_; rintro e w5 ⟨rfl, h1⟩; have HE : Hid _ := h1; clear h1; obtain ⟨g0, g1, g2, f1, f2⟩ := HE.out.cells) | (go_at_call 8; refine (check_os HE.out Hc.out).mono ?_; rintro e w6 ⟨rfl, h1⟩; have HE : Hid _ := h1; clear h1; obtain ⟨g0, g1, g2, f1, f2⟩ := HE.out.cells))
  refine bodyPost_ret (res_me rfl _ _ w.heap.size #[.int .i64 0, .slice none 0 0, .string ByteArray.empty] rfl rfl (setRow_heap _ _ _ _ _ _ HE.out.rv) _ rfl) rfl ?_
  exact ⟨rfl, HE.out.keep.setRow _ _ (fun h => by omega)⟩
set_option maxRecDepth 100000 in
set_option maxHeartbeats 1000000 in
theorem of_ids_ok (w : World) (s : ByteArray) (h : s.size ≤ 1024) (n a1 n2 a2 : Nat) (b2 : Int) (hv : rnum s 0 0 1 = (n, a1, 0)) (hk : knd n = 1) (hn : rnum s a1 0 1 = (n2, a2, b2)) (he : endv s (rdIds s a2 b2 n2).2.1 (rdIds s a2 b2 n2).2.2 = 0) (hc : chk n n2 ByteArray.empty = 0) :
    Calls Try.prog 10 #[.string s] w fun en w' => ∃ va vc, en = .returned (.tuple #[.agg #[.int .i64 n, .slice va n2 vc, .string ByteArray.empty], .int .i64 0]) ∧ Own w' (.slice va n2 vc) (rdIds s a2 b2 n2).1 ∧ (∀ y, (Value.slice va n2 vc).ownBlock = some y → w.heap.size ≤ y) ∧ Keep (fun _ => False) w w' := by
  have Hv : Hid _ := hv
  have Hk : Hid _ := hk
  have Hn : Hid _ := hn
  have He : Hid _ := he
  have Hc : Hid _ := hc
  clear hv hk hn he hc
  go_enter Try.func10, Try.ntmps10
  go_wp2_with (first | (go_at_call 24; refine (open_any _ s (by unfold maxLen; omega)).mono ?_; rintro e w1 ⟨rfl, h1, k1⟩; rw [size_alloc] at h1; have H1 : Hid _ := h1; have K1 : Hid _ := k1; clear h1 k1) | (go_at_call 25; refine (rnum_v _ _ s 0 0 1 _ _ _ H1.out Hv.out).mono ?_; rintro e w2 ⟨rfl, h1, k1⟩; have HS : Hid _ := os_start (n := n) K1.out h1 k1; clear h1 k1; obtain ⟨g0, g1, g2, f1, f2⟩ := HS.out.cells) | (go_at_call 26; refine (err_any _ _ s _ _ HS.out.r).mono ?_; rintro e w3 ⟨rfl, rfl⟩) | (go_at_call 11; refine (has_any _ _).mono ?_; rw [Hk.out]; rintro e w9 ⟨rfl, rfl⟩) | (refine wl_storeRow info_msg rfl rfl rfl rfl rfl rfl (by simp [Value.oneCell']) HS.out.rv rfl ?_) | (refine wl_storeRow info_msg rfl rfl rfl rfl rfl rfl (by simp [Value.oneCell']) HE.out.rv rfl ?_) | (go_at_call 27; refine (list_os HS.out Hn.out).mono ?_; rintro e w4 ⟨va, vc, rfl, h1⟩; have HL : Hid _ := h1; clear h1; obtain ⟨g0, g1, g2, f1, f2⟩ := HL.out.1.cells) | (go_at_call 28; refine (text_os HS.out Ht.out).mono ?_; rintro e w4 ⟨rfl, h1⟩; have HL : Hid _ := h1; clear h1; obtain ⟨g0, g1, g2, f1, f2⟩ := HL.out.cells) | (go_at_call 29; refine (end_os (HL.out.1.setIds HL.out.2.1 HL.out.2.2) He.out).mono ?_; rintro e w5 ⟨rfl, h1⟩; have HE : Hid _ := h1; clear h1; obtain ⟨g0, g1, g2, f1, f2⟩ := HE.out.cells) | (go_at_call 8; refine (check_os HE.out Hc.out).mono ?_; rintro e w6 ⟨rfl, h1⟩; have HE : Hid _ := h1; clear h1; obtain ⟨g0, g1, g2, f1, f2⟩ := HE.out.cells))
  refine bodyPost_ret (res_me rfl _ _ w.heap.size #[.int .i64 n, .slice va n2 vc, .string ByteArray.empty] rfl rfl (setRow_heap _ _ _ _ _ _ HE.out.rv) _ rfl) rfl ?_
  exact ⟨va, vc, rfl, Own.setRow' HE.out.own _ _ (fun y hy => by have := HE.out.new y hy; omega), fun y hy => by have := HE.out.new y hy; omega, HE.out.keep.setRow _ _ (fun h => by omega)⟩
set_option maxRecDepth 100000 in
set_option maxHeartbeats 1000000 in
theorem of_body_end (w : World) (s : ByteArray) (h : s.size ≤ 1024) (n a1 a2 : Nat) (x : ByteArray) (b2 e : Int) (hv : rnum s 0 0 1 = (n, a1, 0)) (hk : knd n = 2) (ht : rtext s a1 0 65535 = (x, a2, b2)) (he : endv s a2 b2 = e) (he0 : e ≠ 0) :
    Calls Try.prog 10 #[.string s] w fun en w' => en = .returned (mz e) ∧ Keep (fun _ => False) w w' := by
  have Hv : Hid _ := hv
  have Hk : Hid _ := hk
  have Ht : Hid _ := ht
  have He : Hid _ := he
  have he1 : (e == 0) = false := by simpa using he0
  have he2 : (e != 0) = true := by simpa using he0
  clear hv hk ht he he0
  go_enter Try.func10, Try.ntmps10
  go_wp2_with (first | (go_at_call 24; refine (open_any _ s (by unfold maxLen; omega)).mono ?_; rintro e w1 ⟨rfl, h1, k1⟩; rw [size_alloc] at h1; have H1 : Hid _ := h1; have K1 : Hid _ := k1; clear h1 k1) | (go_at_call 25; refine (rnum_v _ _ s 0 0 1 _ _ _ H1.out Hv.out).mono ?_; rintro e w2 ⟨rfl, h1, k1⟩; have HS : Hid _ := os_start (n := n) K1.out h1 k1; clear h1 k1; obtain ⟨g0, g1, g2, f1, f2⟩ := HS.out.cells) | (go_at_call 26; refine (err_any _ _ s _ _ HS.out.r).mono ?_; rintro e w3 ⟨rfl, rfl⟩) | (go_at_call 11; refine (has_any _ _).mono ?_; rw [Hk.out]; rintro e w9 ⟨rfl, rfl⟩) | (refine wl_storeRow info_msg rfl rfl rfl rfl rfl rfl (by simp [Value.oneCell']) HS.out.rv rfl ?_) | (refine wl_storeRow info_msg rfl rfl rfl rfl rfl rfl (by simp [Value.oneCell']) HE.out.rv rfl ?_) | (go_at_call 27; refine (list_os HS.out Hn.out).mono ?_; rintro e w4 ⟨va, vc, rfl, h1⟩; have HL : Hid _ := h1; clear h1; obtain ⟨g0, g1, g2, f1, f2⟩ := HL.out.1.cells) | (go_at_call 28; refine (text_os HS.out Ht.out).mono ?_; rintro e w4 ⟨rfl, h1⟩; have HL : Hid _ := h1; clear h1; obtain ⟨g0, g1, g2, f1, f2⟩ := HL.out.cells) | (go_at_call 29; refine (end_os (HL.out.setBody x) He.out).mono ?_; rintro e w5 ⟨rfl, h1⟩; have HE : Hid _ := h1; clear h1; obtain ⟨g0, g1, g2, f1, f2⟩ := HE.out.cells) | (go_at_call 8; refine (check_os HE.out Hc.out).mono ?_; rintro e w6 ⟨rfl, h1⟩; have HE : Hid _ := h1; clear h1; obtain ⟨g0, g1, g2, f1, f2⟩ := HE.out.cells))
  refine bodyPost_ret (res_me rfl _ _ w.heap.size #[.int .i64 0, .slice none 0 0, .string ByteArray.empty] rfl rfl (setRow_heap _ _ _ _ _ _ HE.out.rv) _ rfl) rfl ?_
  exact ⟨rfl, HE.out.keep.setRow _ _ (fun h => by omega)⟩
set_option maxRecDepth 100000 in
set_option maxHeartbeats 1000000 in
theorem of_body_bad (w : World) (s : ByteArray) (h : s.size ≤ 1024) (n a1 a2 : Nat) (x : ByteArray) (b2 c : Int) (hv : rnum s 0 0 1 = (n, a1, 0)) (hk : knd n = 2) (ht : rtext s a1 0 65535 = (x, a2, b2)) (he : endv s a2 b2 = 0) (hc : chk n 0 x = c) (hc0 : c ≠ 0) :
    Calls Try.prog 10 #[.string s] w fun en w' => en = .returned (mz c) ∧ Keep (fun _ => False) w w' := by
  have Hv : Hid _ := hv
  have Hk : Hid _ := hk
  have Ht : Hid _ := ht
  have He : Hid _ := he
  have Hc : Hid _ := hc
  have he2 : (c != 0) = true := by simpa using hc0
  clear hv hk ht he hc hc0
  go_enter Try.func10, Try.ntmps10
  go_wp2_with (first | (go_at_call 24; refine (open_any _ s (by unfold maxLen; omega)).mono ?_; rintro e w1 ⟨rfl, h1, k1⟩; rw [size_alloc] at h1; have H1 : Hid _ := h1; have K1 : Hid _ := k1; clear h1 k1) | (go_at_call 25; refine (rnum_v _ _ s 0 0 1 _ _ _ H1.out Hv.out).mono ?_; rintro e w2 ⟨rfl, h1, k1⟩; have HS : Hid _ := os_start (n := n) K1.out h1 k1; clear h1 k1; obtain ⟨g0, g1, g2, f1, f2⟩ := HS.out.cells) | (go_at_call 26; refine (err_any _ _ s _ _ HS.out.r).mono ?_; rintro e w3 ⟨rfl, rfl⟩) | (go_at_call 11; refine (has_any _ _).mono ?_; rw [Hk.out]; rintro e w9 ⟨rfl, rfl⟩) | (refine wl_storeRow info_msg rfl rfl rfl rfl rfl rfl (by simp [Value.oneCell']) HS.out.rv rfl ?_) | (refine wl_storeRow info_msg rfl rfl rfl rfl rfl rfl (by simp [Value.oneCell']) HE.out.rv rfl ?_) | (go_at_call 27; refine (list_os HS.out Hn.out).mono ?_; rintro e w4 ⟨va, vc, rfl, h1⟩; have HL : Hid _ := h1; clear h1; obtain ⟨g0, g1, g2, f1, f2⟩ := HL.out.1.cells) | (go_at_call 28; refine (text_os HS.out Ht.out).mono ?_; rintro e w4 ⟨rfl, h1⟩; have HL : Hid _ := h1; clear h1; obtain ⟨g0, g1, g2, f1, f2⟩ := HL.out.cells) | (go_at_call 29; refine (end_os (HL.out.setBody x) He.out).mono ?_; rintro e w5 ⟨rfl, h1⟩; have HE : Hid _ := h1; clear h1; obtain ⟨g0, g1, g2, f1, f2⟩ := HE.out.cells) | (go_at_call 8; refine (check_os HE.out Hc.out).mono ?_; rintro e w6 ⟨rfl, h1⟩; have HE : Hid _ := h1; clear h1; obtain ⟨g0, g1, g2, f1, f2⟩ := HE.out.cells))
  refine bodyPost_ret (res_me rfl _ _ w.heap.size #[.int .i64 0, .slice none 0 0, .string ByteArray.empty] rfl rfl (setRow_heap _ _ _ _ _ _ HE.out.rv) _ rfl) rfl ?_
  exact ⟨rfl, HE.out.keep.setRow _ _ (fun h => by omega)⟩
set_option maxRecDepth 100000 in
set_option maxHeartbeats 1000000 in
theorem of_body_ok (w : World) (s : ByteArray) (h : s.size ≤ 1024) (n a1 a2 : Nat) (x : ByteArray) (b2 : Int) (hv : rnum s 0 0 1 = (n, a1, 0)) (hk : knd n = 2) (ht : rtext s a1 0 65535 = (x, a2, b2)) (he : endv s a2 b2 = 0) (hc : chk n 0 x = 0) :
    Calls Try.prog 10 #[.string s] w fun en w' => en = .returned (.tuple #[.agg #[.int .i64 n, .slice none 0 0, .string x], .int .i64 0]) ∧ Keep (fun _ => False) w w' := by
  have Hv : Hid _ := hv
  have Hk : Hid _ := hk
  have Ht : Hid _ := ht
  have He : Hid _ := he
  have Hc : Hid _ := hc
  clear hv hk ht he hc
  go_enter Try.func10, Try.ntmps10
  go_wp2_with (first | (go_at_call 24; refine (open_any _ s (by unfold maxLen; omega)).mono ?_; rintro e w1 ⟨rfl, h1, k1⟩; rw [size_alloc] at h1; have H1 : Hid _ := h1; have K1 : Hid _ := k1; clear h1 k1) | (go_at_call 25; refine (rnum_v _ _ s 0 0 1 _ _ _ H1.out Hv.out).mono ?_; rintro e w2 ⟨rfl, h1, k1⟩; have HS : Hid _ := os_start (n := n) K1.out h1 k1; clear h1 k1; obtain ⟨g0, g1, g2, f1, f2⟩ := HS.out.cells) | (go_at_call 26; refine (err_any _ _ s _ _ HS.out.r).mono ?_; rintro e w3 ⟨rfl, rfl⟩) | (go_at_call 11; refine (has_any _ _).mono ?_; rw [Hk.out]; rintro e w9 ⟨rfl, rfl⟩) | (refine wl_storeRow info_msg rfl rfl rfl rfl rfl rfl (by simp [Value.oneCell']) HS.out.rv rfl ?_) | (refine wl_storeRow info_msg rfl rfl rfl rfl rfl rfl (by simp [Value.oneCell']) HE.out.rv rfl ?_) | (go_at_call 27; refine (list_os HS.out Hn.out).mono ?_; rintro e w4 ⟨va, vc, rfl, h1⟩; have HL : Hid _ := h1; clear h1; obtain ⟨g0, g1, g2, f1, f2⟩ := HL.out.1.cells) | (go_at_call 28; refine (text_os HS.out Ht.out).mono ?_; rintro e w4 ⟨rfl, h1⟩; have HL : Hid _ := h1; clear h1; obtain ⟨g0, g1, g2, f1, f2⟩ := HL.out.cells) | (go_at_call 29; refine (end_os (HL.out.setBody x) He.out).mono ?_; rintro e w5 ⟨rfl, h1⟩; have HE : Hid _ := h1; clear h1; obtain ⟨g0, g1, g2, f1, f2⟩ := HE.out.cells) | (go_at_call 8; refine (check_os HE.out Hc.out).mono ?_; rintro e w6 ⟨rfl, h1⟩; have HE : Hid _ := h1; clear h1; obtain ⟨g0, g1, g2, f1, f2⟩ := HE.out.cells))
  refine bodyPost_ret (res_me rfl _ _ w.heap.size #[.int .i64 n, .slice none 0 0, .string x] rfl rfl (setRow_heap _ _ _ _ _ _ HE.out.rv) _ rfl) rfl ?_
  exact ⟨rfl, HE.out.keep.setRow _ _ (fun h => by omega)⟩
end Ms
end Go.Proofs.Ythllhjdaknmlbaa
