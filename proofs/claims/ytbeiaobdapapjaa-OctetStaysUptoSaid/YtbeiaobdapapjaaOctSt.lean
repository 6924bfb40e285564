/-
  'petrellaw01.OctetStays': behind an error nothing is read, nor written, whatever is asked.
-/
import Derived.Test.YtbeiaobdapapjaaOctAct
import Derived.Test.YtbeiaobdapapjaaOpn2
namespace Go.Proofs.Ytbeiaobdapapjaa
open Go.RowKit
namespace OctSt
open Oct Act1 Go.ChangeShapes Go.WideShapes Go.ChangeAt
open Go.ChangeMaps (open_string shut_string)

theorem _root_.Go.Proofs.Ytbeiaobdapapjaa.Keep.any {B : Nat} {S : Nat → Prop} {W a c : World} (h : Keep (fun y => B ≤ y) W a) (k : Keep S a c) (hs : ∀ y, S y → B ≤ y) : Keep (fun y => B ≤ y) W c := h.trans' k (fun _ _ h => h) (fun y _ e => hs y e)
/-- A reader and a writer that both stand at an error. -/
structure St (W w : World) (bw a : Nat) (s : ByteArray) (bs : List UInt8) : Prop where
  r : IsR w W.heap.size s a 2
  wr : ∃ sv, IsW w bw bs 5 sv ∧ ∀ x, sv.ownBlock = some x → W.heap.size < x
  keep : Keep (fun y => W.heap.size ≤ y) W w
  lt : W.heap.size < bw

section
variable {W w : World} {bw a : Nat} {s : ByteArray} {bs : List UInt8}
theorem St.calm (h : St W w bw a s bs) {w' : World} (k : Keep (fun _ => False) w w') : St W w' bw a s bs := by
  obtain ⟨sv, h1, h2⟩ := h.wr
  exact ⟨h.r.keep k (fun h => h), ⟨sv, h1.keep k (fun h => h) (fun _ _ h => h), h2⟩, h.keep.trans' k (fun _ _ h => h) (fun _ _ h => h.elim), h.lt⟩
theorem St.read (h : St W w bw a s bs) {w' : World} (hr : IsR w' W.heap.size s a 2) (k : Keep (fun k => k = W.heap.size) w w') : St W w' bw a s bs := by
  obtain ⟨sv, h1, h2⟩ := h.wr
  have hl := h.lt
  exact ⟨hr, ⟨sv, h1.keep k (fun (e : bw = W.heap.size) => by omega) (fun x hx (e : x = W.heap.size) => by have := h2 x hx; omega), h2⟩, h.keep.trans' k (fun _ _ h => h) (fun y _ (e : y = W.heap.size) => by omega), h.lt⟩
theorem St.wrote (h : St W w bw a s bs) {w' : World} {sv sv' : Value} (h2 : ∀ x, sv.ownBlock = some x → W.heap.size < x) (hw : IsW w' bw bs 5 sv') (k : After w w' bw sv sv') : St W w' bw a s bs := by
  have hl := h.lt
  have hz := lt_of_block h.r.blk
  refine ⟨h.r.keep k.1 (fun e => ?_), ⟨sv', hw, fun x hx => ?_⟩, h.keep.trans' k.1 (fun _ _ h => h) (fun y _ e => ?_), h.lt⟩
  · rcases e with e | e
    · omega
    · have := h2 _ e; omega
  · rcases k.2 x hx with e | e
    · exact h2 x e
    · omega
  · rcases e with e | e
    · omega
    · have := h2 _ e; omega
theorem rnum_st (h : St W w bw a s bs) (k : Int) : Calls Try.prog 17 #[.pointer (some ⟨W.heap.size, 0, none⟩), .int .i64 k] w fun e w' => e = .returned (.int .i64 0) ∧ St W w' bw a s bs := by
  have e1 : rnum s a 2 k = (0, a, 2) := by simp [rnum]
  refine (rnum_any w W.heap.size s a 2 k h.r).mono ?_
  rw [e1]
  rintro e w' ⟨rfl, h1, h2⟩
  exact ⟨rfl, h.read h1 h2⟩
theorem rtext_st (h : St W w bw a s bs) (k : Int) : Calls Try.prog 19 #[.pointer (some ⟨W.heap.size, 0, none⟩), .int .i64 k] w fun e w' => e = .returned (.string ByteArray.empty) ∧ St W w' bw a s bs := by
  have e1 : rtext s a 2 k = (ByteArray.empty, a, 2) := by simp [rtext, rnum]
  refine (rtext_any w W.heap.size s a 2 k h.r).mono ?_
  rw [e1]
  rintro e w' ⟨rfl, h1, h2⟩
  exact ⟨rfl, h.read h1 h2⟩
theorem rraw_st (h : St W w bw a s bs) (k : Int) : Calls Try.prog 21 #[.pointer (some ⟨W.heap.size, 0, none⟩), .int .i64 k] w fun e w' => e = .returned (.string ByteArray.empty) ∧ St W w' bw a s bs := by
  have e1 : rraw s a 2 k = (ByteArray.empty, a, 2) := by simp [rraw]
  refine (rraw_any w W.heap.size s a 2 k h.r).mono ?_
  rw [e1]
  rintro e w' ⟨rfl, h1, h2⟩
  exact ⟨rfl, h.read h1 h2⟩
theorem left_st (h : St W w bw a s bs) : Calls Try.prog 23 #[.pointer (some ⟨W.heap.size, 0, none⟩)] w fun e w' => e = .returned (.int .i64 0) ∧ St W w' bw a s bs := by
  refine (left_any w W.heap.size s a 2 h.r).mono ?_
  rintro e w' ⟨rfl, h1⟩
  exact ⟨rfl, h.calm h1⟩
theorem err_st (h : St W w bw a s bs) : Calls Try.prog 24 #[.pointer (some ⟨W.heap.size, 0, none⟩)] w fun e w' => e = .returned (.int .i64 2) ∧ St W w' bw a s bs := by
  refine (err_any w W.heap.size s a 2 h.r).mono ?_
  rintro e w' ⟨rfl, rfl⟩
  exact ⟨rfl, h⟩
theorem end_st (h : St W w bw a s bs) : Calls Try.prog 25 #[.pointer (some ⟨W.heap.size, 0, none⟩)] w fun e w' => e = .returned (.int .i64 2) ∧ St W w' bw a s bs := by
  refine (end_any w W.heap.size s a 2 h.r).mono ?_
  rintro e w' ⟨rfl, h1⟩
  exact ⟨rfl, h.calm h1⟩
theorem wnum_st (h : St W w bw a s bs) (hl : bs.length ≤ 1000000000) (n k : Int) : Calls Try.prog 10 #[.pointer (some ⟨bw, 0, none⟩), .int .i64 n, .int .i64 k] w fun e w' => e = .returned (.pointer (some ⟨bw, 0, none⟩)) ∧ St W w' bw a s bs := by
  obtain ⟨sv, h1, h2⟩ := h.wr
  refine (num_any w bw bs 5 n k sv h1 (by omega)).mono ?_
  rw [show wnum (bs, 5) n k = (bs, 5) from by simp [wnum]]
  rintro e w' ⟨rfl, sv', h3, h4⟩
  exact ⟨rfl, h.wrote h2 h3 h4⟩
theorem wtext_st (h : St W w bw a s bs) (hl : bs.length ≤ 1000000000) (x : ByteArray) (hx : x.size ≤ 1048576) : Calls Try.prog 12 #[.pointer (some ⟨bw, 0, none⟩), .string x] w fun e w' => e = .returned (.pointer (some ⟨bw, 0, none⟩)) ∧ St W w' bw a s bs := by
  obtain ⟨sv, h1, h2⟩ := h.wr
  refine (text_any w bw bs 5 x sv h1 (by omega) (by unfold maxLen; omega)).mono ?_
  rw [show wtext (bs, 5) x = (bs, 5) from by simp [wtext]]
  rintro e w' ⟨rfl, sv', h3, h4⟩
  exact ⟨rfl, h.wrote h2 h3 h4⟩
theorem wraw_st (h : St W w bw a s bs) (hl : bs.length ≤ 1000000000) (x : ByteArray) (hx : x.size ≤ 1048576) : Calls Try.prog 13 #[.pointer (some ⟨bw, 0, none⟩), .string x] w fun e w' => e = .returned (.pointer (some ⟨bw, 0, none⟩)) ∧ St W w' bw a s bs := by
  obtain ⟨sv, h1, h2⟩ := h.wr
  refine (raw_any w bw bs 5 x sv h1 (by omega)).mono ?_
  rw [show wraw (bs, 5) x = (bs, 5) from by simp [wraw]]
  rintro e w' ⟨rfl, sv', h3, h4⟩
  exact ⟨rfl, h.wrote h2 h3 h4⟩
theorem done_st (h : St W w bw a s bs) : Calls Try.prog 14 #[.pointer (some ⟨bw, 0, none⟩)] w fun e w' => e = .returned (.tuple #[.string ByteArray.empty, .int .i64 5]) ∧ St W w' bw a s bs := by
  obtain ⟨sv, h1, h2⟩ := h.wr
  refine (done_any w bw bs 5 sv h1).mono ?_
  rintro e w' ⟨rfl, h3⟩
  exact ⟨rfl, h.calm h3⟩
theorem awake_st (h : St W w bw a s bs) : Calls Try.prog 15 #[] w fun e w' => e = .returned (.bool true) ∧ St W w' bw a s bs := by
  refine (Law.awake_true w).mono ?_
  rintro e w' ⟨rfl, h3⟩
  exact ⟨rfl, h.calm h3⟩
end

set_option maxHeartbeats 4000000 in
set_option maxRecDepth 100000 in
theorem go (s : ByteArray) (n : Int) (b0 off len cap : Nat) (els : List OAct) (W : World) (hs : s.size ≤ 1048576) (hels : els.length = len) (hb0 : len = 0 ∨ b0 < W.heap.size) (hlm : len ≤ maxLen) (ad : Option Addr) (had : len = 0 ∨ ad = some ⟨b0, off, none⟩)
    (hat : ∀ i x, els[i]? = some x → W.rangeAt b0 (off + i * 4) (lay x) ∧ fact W x) (hsm : ∀ x ∈ els, x.2.2.2.1.size ≤ 1048576) :
    Calls Try.prog 6 #[.string s, .int .i64 n, .slice ad len cap] W fun e W' => e = .returned (.bool true) ∧ Below W.heap.size W W' := by
  unfold maxLen at hlm
  have e1 : rraw s 0 0 (s.size : Int) = (s, s.size, 0) := by
    unfold rraw
    rw [if_neg (by simp), if_neg (by omega), if_neg (by simp)]
    simp
  have e2 : rnum s s.size 0 4 = (0, s.size, 2) := by
    have : rraw s s.size 0 4 = (ByteArray.empty, s.size, 2) := by
      unfold rraw
      rw [if_neg (by simp), if_neg (by omega), if_pos (by omega)]
    unfold rnum
    rw [if_neg (by simp), if_neg (by decide), this]
    rfl
  have E1 : Hid _ := e1
  have E2 : Hid _ := e2
  clear e1 e2
  go_enter Try.func6, Try.ntmps6
  go_wp2_with (first | (go_at_call 16; refine (open_any _ s (by unfold maxLen; omega)).mono ?_; rintro e w1 ⟨rfl, h1, k1⟩; have H1 : Hid _ := h1; have K1 : Hid _ := k1; clear h1 k1) | (go_at_call 21; refine (rraw_any _ _ s 0 0 s.size H1.out).mono ?_; rw [E1.out]; rintro e w2 ⟨rfl, h1, k1⟩; have H2 : Hid _ := h1; have K2 : Hid _ := k1; clear h1 k1) | (go_at_call 17; refine (rnum_any _ _ s s.size 0 4 H2.out).mono ?_; rw [E2.out]; rintro e w3 ⟨rfl, h1, k1⟩; have H3 : Hid _ := h1; have K3 : Hid _ := k1; clear h1 k1) | (go_at_call 8; refine (new_any _).mono ?_; rintro e w4 ⟨rfl, h1, k1⟩; have H4 : Hid _ := h1; have K4 : Hid _ := k1; clear h1 k1) | (go_at_call 13; refine (raw_any _ _ [] 0 s _ H4.out (by simp; omega)).mono ?_; rw [show wraw ([], 0) s = (s.data.toList, 0) from by simp [wraw]]; rintro e w5 ⟨rfl, sv5, h1, k1⟩; have H5 : Hid _ := h1; have K5 : Hid _ := k1; clear h1 k1) | (go_at_call 10; refine (num_any _ _ s.data.toList 0 (-1) 1 sv5 H5.out (by simp; change s.size ≤ _; omega)).mono ?_; rw [show wnum (s.data.toList, 0) (-1) 1 = (s.data.toList, 5) from by simp [wnum, nbits]]; rintro e w6 ⟨rfl, sv6, h1, k1⟩; have H6 : Hid _ := h1; have K6 : Hid _ := k1; clear h1 k1))
  have hst : St W w6 w3.heap.size s.size s s.data.toList := by
    have hz3 : W.heap.size < w3.heap.size := lt_of_block H3.out.blk
    have o5 : ∀ x, sv5.ownBlock = some x → W.heap.size < x := fun x hx => by
      rcases K5.out.2 x hx with e | e
      · simp [Value.ownBlock] at e
      · have := K4.out.size; omega
    have o6 : ∀ x, sv6.ownBlock = some x → W.heap.size < x := fun x hx => by
      rcases K6.out.2 x hx with e | e
      · exact o5 x e
      · have := K4.out.size; have := K5.out.1.size; omega
    have k3 : Keep (fun y => W.heap.size ≤ y) W w3 := ((K1.out.mono (fun _ _ h => h.elim)).any K2.out (fun y (e : y = _) => by omega)).any K3.out (fun y (e : y = _) => by omega)
    have s5 : ∀ y, (y = w3.heap.size ∨ (Value.slice none 0 0).ownBlock = some y) → W.heap.size < y := fun y e => by
      rcases e with e | e
      · omega
      · simp [Value.ownBlock] at e
    have s6 : ∀ y, (y = w3.heap.size ∨ sv5.ownBlock = some y) → W.heap.size < y := fun y e => by
      rcases e with e | e
      · omega
      · exact o5 y e
    exact ⟨((H3.out.keep K4.out (fun h => h)).keep K5.out.1 (fun e => by have := s5 _ e; omega)).keep K6.out.1 (fun e => by have := s6 _ e; omega), ⟨sv6, H6.out, o6⟩,
      ((k3.any K4.out (fun _ h => h.elim)).any K5.out.1 (fun y e => Nat.le_of_lt (s5 y e))).any K6.out.1 (fun y e => Nat.le_of_lt (s6 y e)), hz3⟩
  have HST : Hid _ := hst
  clear hst
  have hbl : s.data.toList.length ≤ 1000000000 := by simp; change s.size ≤ _; omega
  have Hbl : Hid _ := hbl
  clear hbl
  go_loopw [9] (fun i wr => ∃ k : Nat, (k ≤ len ∧ k ≤ 20) ∧ i = .int .i64 k ∧ St W wr w3.heap.size s.size s s.data.toList) (fun i _ => len - (intOf i).toNat)
  case atStart => exact ⟨0, by omega, rfl, HST.out⟩
  case round =>
    obtain ⟨k, hk, rfl, hrel⟩ := hrel
    have HS : Hid _ := hrel
    clear hrel
    by_cases hlt : k < len ∧ k < 20
    · obtain ⟨hlt, h20⟩ := hlt
      obtain ⟨x, hx⟩ : ∃ x, els[k]? = some x := ⟨_, List.getElem?_eq_getElem (by omega)⟩
      obtain ⟨K, N, Z, S, u⟩ := x
      have Hr : Hid _ := (hat k _ hx).1
      have hS : S.size ≤ 1048576 := hsm _ (List.mem_of_getElem? hx)
      obtain rfl : ad = some ⟨b0, off, none⟩ := by rcases had with e | e; omega; exact e
      have hb1 : b0 < W.heap.size := by rcases hb0 with e | e; omega; exact e
      clear hx hat hsm had hb0
      obtain ⟨g0, g1, g2, g3⟩ := cells4 Hr.out HS.out.keep hb1
      simp only at g0 g1 g2 g3
      go_wp2
      refine Txt.wp_region_text (fun w' => w'.cell? ⟨b0, off + k * 4 + 3, none⟩ = some (.string S)) [0, 0, 0, 0, 0, 1, 0, 0, 0, 0, 1, 4, 0, 0, 0, 0, 2, 4, 0, 0, 0, 0, 2, 4] (by kernel_rfl) (by kernel_rfl) g3 ?_
      repeat (first
        | (refine Txt.tl_pure (v := ?_) (by rfl) ?_ ?_; rotate_left; (focus (intro _; go_simp; try with_reducible rfl)); simp only [Act.put, List.setIfInBounds_toArray, List.set_cons_zero, List.set_cons_succ])
        | (refine Txt.tl_skip (by rfl) trivial ?_; simp only [Act.put, List.setIfInBounds_toArray, List.set_cons_zero, List.set_cons_succ])
        | (refine Txt.tl_load (v := ?_) (by rfl) (by rfl) (by rfl) (by kernel_rfl) ?_ ?_; rotate_left; (focus (first | assumption | (go_simp; done) | (go_simp; with_reducible rfl))); simp only [Act.put, List.setIfInBounds_toArray, List.set_cons_zero, List.set_cons_succ])
        | (refine Txt.tl_alloc (by rfl) ?_; go_simp; refine ⟨by (first | exact Txt.Le.alloc_drew _ _ | exact Txt.Le.alloc _ _), ?_⟩))
      refine Txt.tl_loud (by rfl) ?_
      go_simp
      refine (wnum_st (HS.out.calm (Keep.refl _ _).drew) Hbl.out N Z).mono ?_
      rintro e w9 ⟨rfl, h9⟩; have HS : Hid _ := h9; clear h9; obtain ⟨g0, g1, g2, g3⟩ := cells4 Hr.out HS.out.keep hb1; simp only at g0 g1 g2 g3
      dsimp only
      refine ⟨g3, ?_⟩
      repeat (first
        | (refine Txt.tl_pure (v := ?_) (by rfl) ?_ ?_; rotate_left; (focus (intro _; go_simp; try with_reducible rfl)); simp only [Act.put, List.setIfInBounds_toArray, List.set_cons_zero, List.set_cons_succ])
        | (refine Txt.tl_skip (by rfl) trivial ?_; simp only [Act.put, List.setIfInBounds_toArray, List.set_cons_zero, List.set_cons_succ])
        | (refine Txt.tl_load (v := ?_) (by rfl) (by rfl) (by rfl) (by kernel_rfl) ?_ ?_; rotate_left; (focus (first | assumption | (go_simp; done) | (go_simp; with_reducible rfl))); simp only [Act.put, List.setIfInBounds_toArray, List.set_cons_zero, List.set_cons_succ])
        | (refine Txt.tl_alloc (by rfl) ?_; go_simp; refine ⟨by (first | exact Txt.Le.alloc_drew _ _ | exact Txt.Le.alloc _ _), ?_⟩))
      refine Txt.tl_loadS (v := .string S) (by rfl) (by rfl) (by rfl) (by kernel_rfl) (fun _ h => h) ?_
      simp only [Act.put, List.setIfInBounds_toArray, List.set_cons_zero, List.set_cons_succ]
      refine Txt.tl_loud (by rfl) ?_
      go_simp
      refine (wtext_st HS.out Hbl.out S hS).mono ?_
      rintro e w9 ⟨rfl, h9⟩; have HS : Hid _ := h9; clear h9; obtain ⟨g0, g1, g2, g3⟩ := cells4 Hr.out HS.out.keep hb1; simp only at g0 g1 g2 g3
      dsimp only
      refine ⟨g3, ?_⟩
      repeat (first
        | (refine Txt.tl_pure (v := ?_) (by rfl) ?_ ?_; rotate_left; (focus (intro _; go_simp; try with_reducible rfl)); simp only [Act.put, List.setIfInBounds_toArray, List.set_cons_zero, List.set_cons_succ])
        | (refine Txt.tl_skip (by rfl) trivial ?_; simp only [Act.put, List.setIfInBounds_toArray, List.set_cons_zero, List.set_cons_succ])
        | (refine Txt.tl_load (v := ?_) (by rfl) (by rfl) (by rfl) (by kernel_rfl) ?_ ?_; rotate_left; (focus (first | assumption | (go_simp; done) | (go_simp; with_reducible rfl))); simp only [Act.put, List.setIfInBounds_toArray, List.set_cons_zero, List.set_cons_succ])
        | (refine Txt.tl_alloc (by rfl) ?_; go_simp; refine ⟨by (first | exact Txt.Le.alloc_drew _ _ | exact Txt.Le.alloc _ _), ?_⟩))
      refine Txt.tl_loadS (v := .string S) (by rfl) (by rfl) (by rfl) (by kernel_rfl) (fun _ h => h) ?_
      simp only [Act.put, List.setIfInBounds_toArray, List.set_cons_zero, List.set_cons_succ]
      refine Txt.tl_loud (by rfl) ?_
      go_simp
      refine (wraw_st HS.out Hbl.out S hS).mono ?_
      rintro e w9 ⟨rfl, h9⟩; have HS : Hid _ := h9; clear h9; obtain ⟨g0, g1, g2, g3⟩ := cells4 Hr.out HS.out.keep hb1; simp only at g0 g1 g2 g3
      dsimp only
      refine ⟨g3, ?_⟩
      refine Txt.tl_nil ?_
      go_wp2_with (first | (go_at_call 17; refine (rnum_st HS.out _).mono ?_; rintro e w9 ⟨rfl, h9⟩; have HS : Hid _ := h9; clear h9; obtain ⟨g0, g1, g2, g3⟩ := cells4 Hr.out HS.out.keep hb1; simp only at g0 g1 g2 g3) | (go_at_call 19; refine (rtext_st HS.out _).mono ?_; rintro e w9 ⟨rfl, h9⟩; have HS : Hid _ := h9; clear h9; obtain ⟨g0, g1, g2, g3⟩ := cells4 Hr.out HS.out.keep hb1; simp only at g0 g1 g2 g3) | (go_at_call 21; refine (rraw_st HS.out _).mono ?_; rintro e w9 ⟨rfl, h9⟩; have HS : Hid _ := h9; clear h9; obtain ⟨g0, g1, g2, g3⟩ := cells4 Hr.out HS.out.keep hb1; simp only at g0 g1 g2 g3) | (go_at_call 23; refine (left_st HS.out).mono ?_; rintro e w9 ⟨rfl, h9⟩; have HS : Hid _ := h9; clear h9; obtain ⟨g0, g1, g2, g3⟩ := cells4 Hr.out HS.out.keep hb1; simp only at g0 g1 g2 g3) | (go_at_call 24; refine (err_st HS.out).mono ?_; rintro e w9 ⟨rfl, h9⟩; have HS : Hid _ := h9; clear h9; obtain ⟨g0, g1, g2, g3⟩ := cells4 Hr.out HS.out.keep hb1; simp only at g0 g1 g2 g3))
      go_roundw
      case rel => exact ⟨k + 1, by omega, rfl, HS.out⟩
      case measure => simp [intOf]; omega
    · by_cases hlt2 : k < len
      · obtain rfl : k = 20 := by omega
        go_wp2_with (first | (go_at_call 14; refine (done_st HS.out).mono ?_; rintro e w9 ⟨rfl, h9⟩; have HS : Hid _ := h9; clear h9) | (go_at_call 25; refine (end_st HS.out).mono ?_; rintro e w9 ⟨rfl, h9⟩; have HS : Hid _ := h9; clear h9) | (go_at_call 15; refine (awake_st HS.out).mono ?_; rintro e w9 ⟨rfl, h9⟩; have HS : Hid _ := h9; clear h9))
        go_ret
        exact ⟨rfl, Keep.below (S := fun y => W.heap.size ≤ y) HS.out.keep (Nat.le_refl _) (fun _ h => h)⟩
      · obtain rfl : k = len := by omega
        go_wp2_with (first | (go_at_call 14; refine (done_st HS.out).mono ?_; rintro e w9 ⟨rfl, h9⟩; have HS : Hid _ := h9; clear h9) | (go_at_call 25; refine (end_st HS.out).mono ?_; rintro e w9 ⟨rfl, h9⟩; have HS : Hid _ := h9; clear h9) | (go_at_call 15; refine (awake_st HS.out).mono ?_; rintro e w9 ⟨rfl, h9⟩; have HS : Hid _ := h9; clear h9))
        go_ret
        exact ⟨rfl, Keep.below (S := fun y => W.heap.size ≤ y) HS.out.keep (Nat.le_refl _) (fun _ h => h)⟩

theorem own : ownKnob Try.prog.godebug = none := by kernel_rfl
theorem laidOut : laidOutB Try.prog = true := by kernel_rfl
theorem contract (H : Type) (enc : TypeId × Value → H) (W : World) (base : Nat) (args : Array Value) (ds gs : List (DataW H)) (before : List MemPlace)
    (hval : ∀ (j : Nat) t v, Try.f6.params[j]? = some t → args[j]? = some v → Value.okWide Try.prog W .any base t v)
    (hW : DataW.Whole enc Try.prog Try.f6.params.toList Rows.octetStaysSpec.vars false W args.toList ds gs before) (hk : Rows.uptoSmall H (ds ++ gs) = true) :
    Calls Try.prog 6 args W fun e W' => ∃ v, e = .returned v ∧ Rows.octetStaysSpec.post enc Try.prog Try.f6 false true false false W args v W' := by
  have hW' := hW
  have hk' : Rows.uptoBulkAll (ds ++ gs) ≤ 1048576 := of_decide_eq_true hk
  obtain ⟨p, q, hA0, hV, rfl, hfz, hnd⟩ := hW
  have hA : DataW.TrodAll enc Try.prog W 0 (fun _ => true) true Try.f6.params.toList args.toList ds p := hA0
  rw [Try.params6] at hA hval
  obtain ⟨rfl, rfl⟩ := trodVars_none hV
  rw [List.append_nil] at hk'
  obtain ⟨v0, vs0, d0, ds0, p0, q0, hargs, rfl, rfl, h0, r0⟩ := trodAll_cons hA
  obtain ⟨v1, vs1, d1, ds1, p1, q1, rfl, rfl, rfl, h1, r1⟩ := trodAll_cons r0
  obtain ⟨v2, vs2, d2, ds2, p2, q2, rfl, rfl, rfl, h2, r2⟩ := trodAll_cons r1
  obtain ⟨rfl, rfl, rfl⟩ := trodAll_nil r2
  obtain rfl : args = #[v0, v1, v2] := by cases args; simp_all
  obtain ⟨s, rfl, rfl, rfl, hs⟩ := open_string Try.underlying9 (hval 0 _ v0 rfl rfl) h0
  obtain ⟨n, rfl, rfl, rfl, _⟩ := open_int Try.underlying3 (hval 1 _ v1 rfl rfl) h1
  obtain ⟨⟨a, len, cap, els⟩, rfl, hat, hbk⟩ := Opn.open_sl Try.underlying22 rdl (hval 2 _ v2 rfl rfl) h2
  obtain ⟨e1, e2, e3, e4⟩ := hat
  simp only at e1 e2 e3 e4 hbk
  simp only [Rows.uptoBulkAll, Rows.uptoBulk, Array.length_toList] at hk'
  change s.size + 1 + _ ≤ _ at hk'
  have hsm : ∀ x ∈ els, x.2.2.2.1.size ≤ 1048576 := by
    intro x hx
    have := sum_le els x hx
    unfold bulk at this hbk
    omega
  have key : Calls Try.prog 6 #[.string s, .int .i64 n, .slice a len cap] W fun e W' => e = .returned (.bool true) ∧ Below W.heap.size W W' := by
    rcases e4 with e4 | ⟨b, off, rfl, hb, hel⟩
    · subst e4
      obtain rfl : els = [] := List.length_eq_zero_iff.1 e1
      exact go s n 0 0 0 cap [] W (by omega) rfl (.inl rfl) (Nat.zero_le _) a (.inl rfl) (fun i x h => by simp at h) (fun x h => by simp at h)
    · exact go s n b off len cap els W (by omega) e1 (.inr hb) (Nat.le_trans e2 e3) _ (.inr rfl) hel hsm
  refine key.mono fun e W' ⟨he, bel⟩ => ?_
  subst he
  exact ⟨_, rfl, Opn.law_post laidOut (by kernel_rfl) rfl Try.underlying4 rfl rfl hW' bel⟩
set_option maxRecDepth 100000 in
theorem lifted (os : Os) (started : os.Started) (H : Type) (enc : TypeId × Value → H) (F : Stop.Interp) :
    ReturnsInHanded {} Try.checked os 6 .any ((Rows.OpenSpec.upto Rows.octetStaysSpec).pre6 enc Try.prog Try.f6 Rows.octetStaysUptoRow.domain false) (((Rows.OpenSpec.upto Rows.octetStaysSpec).at F).post enc Try.prog Try.f6 false true false false) := by
  refine returnsInHanded_of_cond (C := Try.checked) (s := Rows.OpenSpec.upto Rows.octetStaysSpec) (k := Rows.uptoSmall) rfl own started (by kernel_rfl) Try.func6
    (OpenSpec.witness (enc := enc) (C := Try.checked) (s := Rows.OpenSpec.upto Rows.octetStaysSpec) (k := Rows.uptoSmall) rfl false ⟨#[], #[.string .empty, .int .i64 0, .slice none 0 0], []⟩ 8 (by kernel_rfl) (by kernel_rfl) (by kernel_rfl)
      (x := ([.lit (.string []), .lit (.int .i64 0), .nil], [], [])) (by kernel_rfl) rfl (by kernel_rfl)) ?_
  intro W base args ds gs before hval hW _ hk _
  exact contract H enc W base args ds gs before hval hW hk
theorem over : Rows.octetStaysUptoRow.holds Try.pinned (Rows.OpenSpec.upto Rows.octetStaysSpec) :=
  OpenClaim.holds_of_cond 6 Try.f6 rfl rfl rfl rfl rfl rfl rfl ⟨rfl, rfl, rfl, rfl, rfl⟩ rfl rfl rfl rfl rfl (by kernel_rfl) Try.func6 (by kernel_rfl)
    (of_decide_eq_true (by kernel_rfl)) (by unfold Func.isWrapper; first | (rw [if_pos (by decide +kernel)]; kernel_rfl) | (rw [if_neg (by decide +kernel)]; exact ⟨rfl, rfl⟩))
    (fun os started H enc _ F => lifted os started H enc F)
theorem proved : Rows.OctetStaysUptoSaid := over
end OctSt
end Go.Proofs.Ytbeiaobdapapjaa
