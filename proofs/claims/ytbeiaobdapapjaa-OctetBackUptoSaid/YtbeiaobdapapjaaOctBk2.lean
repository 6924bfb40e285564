/-
  'petrellaw01.OctetBack': numbers and texts that were written are read as they were, whatever stands behind them.
-/
import Derived.Test.YtbeiaobdapapjaaOctBk
import Derived.Lib.Strings
namespace Go.Proofs.Ytbeiaobdapapjaa
open Go.RowKit
namespace OctBk
open Oct Act1 Go.ChangeShapes Go.WideShapes Go.ChangeAt
open Go.ChangeMaps (open_string shut_string)

theorem _root_.Go.Proofs.Ytbeiaobdapapjaa.Keep.any2 {B : Nat} {S : Nat → Prop} {W a c : World} (h : Keep (fun y => B ≤ y) W a) (k : Keep S a c) (hs : ∀ y, S y → B ≤ y) : Keep (fun y => B ≤ y) W c := h.trans' k (fun _ _ h => h) (fun y _ e => hs y e)

/-- The writer behind k calls. -/
structure WRel (W wr : World) (els : List OAct) (k : Nat) (sv : Value) : Prop where
  w : IsW wr W.heap.size (st els k).1 (st els k).2 sv
  keep : Keep (fun x => W.heap.size ≤ x) W wr
  own : ∀ x, sv.ownBlock = some x → W.heap.size ≤ x
  len : (st els k).1.length ≤ k * 65540
theorem WRel.next {W w1 w2 : World} {els : List OAct} {k : Nat} {x : OAct} {bs' : List UInt8} {bad' : Int} {sv sv' : Value} (h : WRel W w1 els k sv) (hx : els[k]? = some x) (hwn : wb (st els k) x = (bs', bad'))
    (h2 : IsW w2 W.heap.size bs' bad' sv') (k2 : After w1 w2 W.heap.size sv sv') : WRel W w2 els (k + 1) sv' := by
  have e := (st_succ els k x hx).trans hwn
  have hl := wb_len (st els k) x
  have hl2 := h.len
  refine ⟨?_, h.keep.any2 k2.1 (fun y e => ?_), fun y hy => ?_, ?_⟩
  · rw [e]; exact h2
  · rcases e with e | e
    · omega
    · exact h.own _ e
  · rcases k2.2 y hy with h1 | h1
    · exact h.own _ h1
    · exact Nat.le_trans h.keep.size h1
  · rw [st_succ els k x hx]; omega
theorem WRel.calm {W w1 w2 : World} {els : List OAct} {k : Nat} {sv : Value} (h : WRel W w1 els k sv) (k2 : Keep (fun _ => False) w1 w2) : WRel W w2 els k sv :=
  ⟨h.w.keep k2 (fun h => h) (fun _ _ h => h), h.keep.any2 k2 (fun _ h => h.elim), h.own, h.len⟩

theorem done_ok (w : World) (b : Nat) (bs : List UInt8) (bad : Int) (sv : Value) (h : IsW w b bs bad sv) (hb : bad = 0) :
    Calls Try.prog 14 #[.pointer (some ⟨b, 0, none⟩)] w fun e w' => e = .returned (.tuple #[.string ⟨bs.toArray⟩, .int .i64 0]) ∧ Keep (fun _ => False) w w' := by
  subst hb
  simpa using done_any w b bs 0 sv h
theorem done_err (w : World) (b : Nat) (bs : List UInt8) (bad : Int) (sv : Value) (h : IsW w b bs bad sv) (hb : bad ≠ 0) :
    Calls Try.prog 14 #[.pointer (some ⟨b, 0, none⟩)] w fun e w' => e = .returned (.tuple #[.string ByteArray.empty, .int .i64 bad]) ∧ Keep (fun _ => False) w w' := by
  have := done_any w b bs bad sv h
  rwa [if_neg hb] at this
theorem rnum_back (w : World) (b at_ at' : Nat) (T : ByteArray) (N Z : Int) (h : IsR w b T at_ 0) (hn : rnum T at_ 0 Z = (N.toNat, at', 0)) (h0 : 0 ≤ N) :
    Calls Try.prog 17 #[.pointer (some ⟨b, 0, none⟩), .int .i64 Z] w fun e w' => e = .returned (.int .i64 N) ∧ IsR w' b T at' 0 ∧ Keep (fun k => k = b) w w' := by
  have := rnum_any w b T at_ 0 Z h
  rw [hn] at this
  simp only [Int.toNat_of_nonneg h0] at this
  exact this
theorem rtext_back (w : World) (b at_ at' : Nat) (T S : ByteArray) (m : Int) (h : IsR w b T at_ 0) (hn : rtext T at_ 0 m = (S, at', 0)) :
    Calls Try.prog 19 #[.pointer (some ⟨b, 0, none⟩), .int .i64 m] w fun e w' => e = .returned (.string S) ∧ IsR w' b T at' 0 ∧ Keep (fun k => k = b) w w' := by
  have := rtext_any w b T at_ 0 m h
  rw [hn] at this
  exact this
theorem left_back (w : World) (b at_ : Nat) (T : ByteArray) (lv : Nat) (h : IsR w b T at_ 0) (hv : T.size = at_ + lv) : Calls Try.prog 23 #[.pointer (some ⟨b, 0, none⟩)] w fun e w' =>
    e = .returned (.int .i64 lv) ∧ Keep (fun _ => False) w w' := by
  have := left_any w b T at_ 0 h
  rw [if_pos rfl, show (T.size : Int) - at_ = lv from by omega] at this
  exact this
theorem end_back (w : World) (b at_ : Nat) (T : ByteArray) (ev : Int) (h : IsR w b T at_ 0) (hv : (if at_ = T.size then (0 : Int) else 4) = ev) : Calls Try.prog 25 #[.pointer (some ⟨b, 0, none⟩)] w fun e w' =>
    e = .returned (.int .i64 ev) ∧ Keep (fun _ => False) w w' := by
  have := end_any w b T at_ 0 h
  rw [if_pos rfl, hv] at this
  exact this

/-- What the reader meets at its call k: the next part of the text. -/
theorem meets (els : List OAct) (m k : Nat) (x : OAct) (T beh : ByteArray) (hx : els[k]? = some x) (hk : k < m) (h0 : (st els m).2 = 0) (hT : T = (⟨(st els m).1.toArray⟩ : ByteArray) ++ beh) :
    (x.1 = 0 → 0 ≤ x.2.1 ∧ rnum T (st els k).1.length 0 x.2.2.1 = (x.2.1.toNat, (st els (k + 1)).1.length, 0)) ∧
    (x.1 ≠ 0 → rtext T (st els k).1.length 0 65535 = (x.2.2.2.1, (st els (k + 1)).1.length, 0)) := by
  obtain ⟨d, rfl⟩ : ∃ d, m = k + 1 + d := ⟨m - (k + 1), by omega⟩
  obtain ⟨h1, r, hr⟩ := st_pre els (k + 1) d h0
  obtain ⟨h2, _⟩ := st_pre els k 1 h1
  have hs := st_succ els k x hx
  obtain ⟨bs, bad, hz⟩ : ∃ bs bad, st els k = (bs, bad) := ⟨_, _, rfl⟩
  obtain ⟨bs', bad', hz'⟩ : ∃ bs bad, st els (k + 1) = (bs, bad) := ⟨_, _, rfl⟩
  rw [hz] at h2 hs ⊢
  rw [hz'] at h1 hs hr ⊢
  obtain rfl : bad = 0 := h2
  obtain rfl : bad' = 0 := h1
  obtain ⟨hg, rfl⟩ := wb_good bs bs' x hs.symm
  simp only at hr
  have hTl : T.data.toList = bs ++ (enc x ++ (r ++ beh.data.toList)) := by
    rw [hT, ByteArray.data_append, Array.toList_append, hr]
    simp [List.append_assoc]
  unfold good at hg
  unfold enc at hTl ⊢
  constructor
  · intro hx0
    simp only [hx0, if_true] at hg hTl ⊢
    refine ⟨hg.2.1, ?_⟩
    rw [List.length_append]
    exact rnum_seg T bs _ x.2.1 x.2.2.1 hg.1 hg.2.1 hg.2.2 hTl
  · intro hx0
    simp only [hx0, if_false] at hg hTl ⊢
    rw [List.length_append]
    exact rtext_seg T bs _ x.2.2.2.1 hg hTl

set_option maxHeartbeats 4000000 in
set_option maxRecDepth 100000 in
theorem go (beh : ByteArray) (b0 off len cap : Nat) (els : List OAct) (W : World) (hs : beh.size ≤ 1048576) (hels : els.length = len) (hb0 : len = 0 ∨ b0 < W.heap.size) (hlm : len ≤ maxLen) (ad : Option Addr) (had : len = 0 ∨ ad = some ⟨b0, off, none⟩)
    (hat : ∀ i x, els[i]? = some x → W.rangeAt b0 (off + i * 4) (lay x) ∧ fact W x) (hsm : ∀ x ∈ els, x.2.2.2.1.size ≤ 1048576) :
    Calls Try.prog 5 #[.slice ad len cap, .string beh] W fun e W' => e = .returned (.bool true) ∧ Below W.heap.size W W' := by
  unfold maxLen at hlm
  go_enter Try.func5, Try.ntmps5
  go_wp2_with (first | (go_at_call 8; refine (new_any _).mono ?_; rintro e w1 ⟨rfl, h1, k1⟩; have H1 : Hid _ := h1; have K1 : Hid _ := k1; clear h1 k1))
  go_loopw [6] (fun i wr => ∃ (k : Nat) (sv : Value), (k ≤ len ∧ k ≤ 40) ∧ i = .int .i64 k ∧ WRel W wr els k sv) (fun i _ => len - (intOf i).toNat)
  case atStart =>
    exact ⟨0, .slice none 0 0, by omega, rfl, H1.out, K1.out.mono (fun _ _ h => h.elim), fun x h => by simp [Value.ownBlock] at h, Nat.zero_le _⟩
  case round =>
    obtain ⟨k, sv, hk, rfl, hrel⟩ := hrel
    have HR : Hid _ := hrel
    clear hrel
    by_cases hlt : k < len ∧ k < 40
    · obtain ⟨hlt, h40⟩ := hlt
      obtain ⟨x, hx⟩ : ∃ x, els[k]? = some x := ⟨_, List.getElem?_eq_getElem (by omega)⟩
      obtain ⟨K, N, Z, S, u⟩ := x
      have Hx : Hid _ := hx
      have Hr : Hid _ := (hat k _ hx).1
      have hS : S.size ≤ 1048576 := hsm _ (List.mem_of_getElem? hx)
      obtain rfl : ad = some ⟨b0, off, none⟩ := by rcases had with e | e; omega; exact e
      have hb1 : b0 < W.heap.size := by rcases hb0 with e | e; omega; exact e
      have hbl : (st els k).1.length ≤ 80000000 := by have := HR.out.len; omega
      have Hbl : Hid _ := hbl
      obtain ⟨⟨bs', bad'⟩, hwn⟩ : ∃ z, wb (st els k) (K, N, Z, S, u) = z := ⟨_, rfl⟩
      have Hwn : Hid _ := hwn
      clear hx hat hsm had hb0 hbl hwn
      obtain ⟨g0, g1, g2, g3⟩ := cells4 Hr.out HR.out.keep hb1
      simp only at g0 g1 g2 g3
      by_cases hK : K = 0
      · subst hK
        have Hwn2 : Hid (wnum ((st els k).1, (st els k).2) N Z = (bs', bad')) := Hwn.out
        go_wp2
        refine Txt.wp_region_text (fun _ => True) [0, 0, 0, 0, 0, 1, 0, 0, 0, 0, 1, 4] (by kernel_rfl) (by kernel_rfl) trivial ?_
        repeat (first
          | (refine Txt.tl_pure (v := ?_) (by rfl) ?_ ?_; rotate_left; (focus (intro _; go_simp; try with_reducible rfl)); simp only [Act.put, List.setIfInBounds_toArray, List.set_cons_zero, List.set_cons_succ])
          | (refine Txt.tl_skip (by rfl) trivial ?_; simp only [Act.put, List.setIfInBounds_toArray, List.set_cons_zero, List.set_cons_succ])
          | (refine Txt.tl_load (v := ?_) (by rfl) (by rfl) (by rfl) (by kernel_rfl) ?_ ?_; rotate_left; (focus (first | assumption | (go_simp; done) | (go_simp; with_reducible rfl))); simp only [Act.put, List.setIfInBounds_toArray, List.set_cons_zero, List.set_cons_succ])
          | (refine Txt.tl_alloc (by rfl) ?_; go_simp; refine ⟨by (first | exact Txt.Le.alloc_drew _ _ | exact Txt.Le.alloc _ _), ?_⟩))
        refine Txt.tl_loud (by rfl) ?_
        go_simp
        refine (Oct.num_any _ W.heap.size _ _ N Z sv (HR.out.calm (Keep.refl _ _).drew).w (by have := Hbl.out; omega)).mono ?_
        rw [Hwn2.out]
        rintro e w2 ⟨rfl, sv', h2, k2⟩
        have Hrel : Hid (WRel W w2 els (k + 1) sv') := (HR.out.calm (Keep.refl _ _).drew).next Hx.out Hwn.out h2 k2
        clear h2 k2
        dsimp only
        refine Txt.tl_nil ?_
        go_wp2
        go_roundw
        case rel => exact ⟨k + 1, sv', by omega, rfl, Hrel.out⟩
        case measure => simp [intOf]; omega
      · have hK0 : (K == 0) = false := by simpa using hK
        have Hwn2 : Hid (wtext ((st els k).1, (st els k).2) S = (bs', bad')) := by have h := Hwn.out; unfold wb at h; rwa [if_neg hK] at h
        go_wp2_with (first | (go_at_call 12; refine (Oct.text_any _ W.heap.size _ _ S sv HR.out.w (by have := Hbl.out; omega) (by unfold maxLen; omega)).mono ?_; rw [Hwn2.out]; rintro e w2 ⟨rfl, sv', h2, k2⟩; have Hrel : Hid (WRel W w2 els (k + 1) sv') := HR.out.next Hx.out Hwn.out h2 k2; clear h2 k2))
        go_roundw
        case rel => exact ⟨k + 1, sv', by omega, rfl, Hrel.out⟩
        case measure => simp [intOf]; omega
    · obtain ⟨bs, hbs⟩ : ∃ bs, (st els k).1 = bs := ⟨_, rfl⟩
      obtain ⟨bad, hbad⟩ : ∃ bad, (st els k).2 = bad := ⟨_, rfl⟩
      have Hbs : Hid _ := hbs
      have Hbad : Hid _ := hbad
      have Hw : Hid (IsW wr W.heap.size bs bad sv) := by rw [← hbs, ← hbad]; exact HR.out.w
      have hbl : bs.length ≤ 80000000 := by have := HR.out.len; rw [hbs] at this; omega
      clear hbs hbad
      by_cases hb : bad = 0
      · subst hb
        obtain ⟨T, hT⟩ : ∃ T : ByteArray, (⟨bs.toArray⟩ : ByteArray) ++ beh = T := ⟨_, rfl⟩
        have HT : Hid _ := hT
        have hTs : T.size = bs.length + beh.size := by rw [← HT.out, ByteArray.size_append]; rfl
        have HTs : Hid _ := hTs
        clear hTs
        have hmeet : Hid (∀ (j : Nat) (x : OAct), els[j]? = some x → j < k → _) := fun j x hx hj => meets els k j x T beh hx hj Hbad.out (by rw [Hbs.out]; exact HT.out.symm)
        by_cases hlt2 : k < len
        · obtain rfl : k = 40 := by omega
          go_wp2_with (first | (go_at_call 14; refine (done_ok _ _ _ _ _ Hw.out rfl).mono ?_; rintro e w3 ⟨rfl, k3⟩; have Hk3 : Hid _ := HR.out.keep.any2 k3 (fun _ h => h.elim); clear k3) | (go_at_call 16; refine (open_any _ T (by rw [HTs.out]; unfold maxLen; omega)).mono ?_; rintro e w4 ⟨rfl, h4, k4⟩; have H4 : Hid _ := h4; have Hk4 : Hid _ := Hk3.out.any2 k4 (fun _ h => h.elim); clear h4 k4))
          have Hz3 : Hid (W.heap.size ≤ w3.heap.size) := Hk3.out.size
          go_loopw [10] (fun i w5 => ∃ (j : Nat), j ≤ 40 ∧ i = .int .i64 j ∧ IsR w5 w3.heap.size T (st els j).1.length 0 ∧ Keep (fun y => W.heap.size ≤ y) W w5) (fun i _ => 40 - (intOf i).toNat)
          case atStart => exact ⟨0, Nat.zero_le _, rfl, H4.out, Hk4.out⟩
          case round =>
            obtain ⟨j, hj, rfl, hr0, hk0⟩ := hrel
            have HR5 : Hid _ := hr0
            have HK5 : Hid _ := hk0
            clear hr0 hk0
            by_cases hjm : j < 40
            · obtain ⟨x, hx⟩ : ∃ x, els[j]? = some x := ⟨_, List.getElem?_eq_getElem (by omega)⟩
              obtain ⟨K, N, Z, S, u⟩ := x
              have Hr : Hid _ := (hat j _ hx).1
              have Hm : Hid _ := hmeet.out j _ hx hjm
              have had2 : ad = some ⟨b0, off, none⟩ := by rcases had with e | e; omega; exact e
              have hb1 : b0 < W.heap.size := by rcases hb0 with e | e; omega; exact e
              clear hx hat hsm had hb0
              subst had2
              obtain ⟨g0, g1, g2, g3⟩ := cells4 Hr.out HK5.out hb1
              simp only at g0 g1 g2 g3
              have hj40 : j < 40 := by omega
              have hs0 : wr.drew.cell? ⟨b0, off + j * 4 + 1, none⟩ = some (.int .i64 N) ∧ wr.drew.cell? ⟨b0, off + j * 4 + 3, none⟩ = some (.string S) := ⟨g1, g3⟩
              have Hs0 : Hid _ := hs0
              clear hs0
              by_cases hK : K = 0
              · subst hK
                obtain ⟨hN0, hrn⟩ := Hm.out.1 rfl
                have HN0 : Hid _ := hN0
                have Hrn : Hid _ := hrn
                clear hN0 hrn
                go_wp2
                refine Txt.wp_region_text (fun w' => w'.cell? ⟨b0, off + j * 4 + 1, none⟩ = some (.int .i64 N) ∧ w'.cell? ⟨b0, off + j * 4 + 3, none⟩ = some (.string S)) [0, 0, 0, 0, 1, 0, 0, 0, 0, 0, 0, 0, 1, 4, 0, 0, 0, 0, 2, 0, 0, 0, 0, 0, 0, 0, 1, 0, 0, 0, 4, 0, 0, 0, 0, 2, 0, 0, 0] (by kernel_rfl) (by kernel_rfl) Hs0.out ?_
                have hs1 := Hs0.out
                repeat (first
                  | (refine Txt.tl_pure (v := ?_) (by rfl) ?_ ?_; rotate_left; (focus (intro _; go_simp; try with_reducible rfl)); simp only [Act.put, List.setIfInBounds_toArray, List.set_cons_zero, List.set_cons_succ])
                  | (refine Txt.tl_skip (by rfl) (by first | trivial | assumption) ?_; simp only [Act.put, List.setIfInBounds_toArray, List.set_cons_zero, List.set_cons_succ])
                  | (refine Txt.tl_load (v := ?_) (by rfl) (by rfl) (by rfl) (by kernel_rfl) ?_ ?_; rotate_left; (focus (first | assumption | (go_simp; done) | (go_simp; with_reducible rfl))); simp only [Act.put, List.setIfInBounds_toArray, List.set_cons_zero, List.set_cons_succ])
                  | (refine Txt.tl_alloc (by rfl) ?_; go_simp; refine ⟨by (first | exact Txt.Le.alloc_drew _ _ | exact Txt.Le.alloc _ _), ?_⟩))
                clear hs1
                refine Txt.tl_loud (by rfl) ?_
                go_simp
                refine (rnum_back _ w3.heap.size _ _ T N Z (HR5.out.keep (Keep.refl (fun _ => False) _).drew (fun h => h)) Hrn.out HN0.out).mono ?_
                rintro e w6 ⟨rfl, h6, k6⟩
                have HR6 : Hid _ := h6
                have HK6 : Hid (Keep _ W w6) := (HK5.out.drew).any2 k6 (fun y (e : y = _) => by have := Hz3.out; omega)
                clear h6 k6
                obtain ⟨q0, q1, q2, q3⟩ := cells4 Hr.out HK6.out hb1
                simp only at q0 q1 q2 q3
                dsimp only
                refine ⟨⟨q1, q3⟩, ?_⟩
                have hs2 : w6.cell? ⟨b0, off + j * 4 + 1, none⟩ = some (.int .i64 N) ∧ w6.cell? ⟨b0, off + j * 4 + 3, none⟩ = some (.string S) := ⟨q1, q3⟩
                repeat (first
                  | (refine Txt.tl_pure (v := ?_) (by rfl) ?_ ?_; rotate_left; (focus (intro _; go_simp; try with_reducible rfl)); simp only [Act.put, List.setIfInBounds_toArray, List.set_cons_zero, List.set_cons_succ])
                  | (refine Txt.tl_skip (by rfl) (by first | trivial | assumption) ?_; simp only [Act.put, List.setIfInBounds_toArray, List.set_cons_zero, List.set_cons_succ])
                  | (refine Txt.tl_load (v := ?_) (by rfl) (by rfl) (by rfl) (by kernel_rfl) ?_ ?_; rotate_left; (focus (first | assumption | (go_simp; done) | (go_simp; with_reducible rfl))); simp only [Act.put, List.setIfInBounds_toArray, List.set_cons_zero, List.set_cons_succ])
                  | (refine Txt.tl_alloc (by rfl) ?_; go_simp; refine ⟨by (first | exact Txt.Le.alloc_drew _ _ | exact Txt.Le.alloc _ _), ?_⟩))
                refine Txt.tl_loadS (v := .int .i64 N) (by rfl) (by rfl) (by rfl) (by kernel_rfl) (fun _ h => h.1) ?_
                simp only [Act.put, List.setIfInBounds_toArray, List.set_cons_zero, List.set_cons_succ]
                repeat (first
                  | (refine Txt.tl_pure (v := ?_) (by rfl) ?_ ?_; rotate_left; (focus (intro _; go_simp; try with_reducible rfl)); simp only [Act.put, List.setIfInBounds_toArray, List.set_cons_zero, List.set_cons_succ])
                  | (refine Txt.tl_skip (by rfl) (by first | trivial | assumption) ?_; simp only [Act.put, List.setIfInBounds_toArray, List.set_cons_zero, List.set_cons_succ])
                  | (refine Txt.tl_load (v := ?_) (by rfl) (by rfl) (by rfl) (by kernel_rfl) ?_ ?_; rotate_left; (focus (first | assumption | (go_simp; done) | (go_simp; with_reducible rfl))); simp only [Act.put, List.setIfInBounds_toArray, List.set_cons_zero, List.set_cons_succ])
                  | (refine Txt.tl_alloc (by rfl) ?_; go_simp; refine ⟨by (first | exact Txt.Le.alloc_drew _ _ | exact Txt.Le.alloc _ _), ?_⟩))
                refine Txt.tl_nil ?_
                clear hs2
                go_wp2
                go_roundw
                case rel => exact ⟨j + 1, by omega, rfl, HR6.out, HK6.out⟩
                case measure => simp [intOf]; omega
              · have hK0 : (K == 0) = false := by simpa using hK
                have hK2 : (K != 0) = true := by simpa using hK
                have Hrt : Hid _ := Hm.out.2 hK
                go_wp2
                refine Txt.wp_region_text (fun w' => w'.cell? ⟨b0, off + j * 4 + 1, none⟩ = some (.int .i64 N) ∧ w'.cell? ⟨b0, off + j * 4 + 3, none⟩ = some (.string S)) [0, 0, 0, 0, 1, 0, 0, 0, 0, 0, 0, 0, 1, 4, 0, 0, 0, 0, 2, 0, 0, 0, 0, 0, 0, 0, 1, 0, 0, 0, 4, 0, 0, 0, 0, 2, 0, 0, 0] (by kernel_rfl) (by kernel_rfl) Hs0.out ?_
                have hs1 := Hs0.out
                repeat (first
                  | (refine Txt.tl_pure (v := ?_) (by rfl) ?_ ?_; rotate_left; (focus (intro _; go_simp; try with_reducible rfl)); simp only [Act.put, List.setIfInBounds_toArray, List.set_cons_zero, List.set_cons_succ])
                  | (refine Txt.tl_skip (by rfl) (by first | trivial | assumption) ?_; simp only [Act.put, List.setIfInBounds_toArray, List.set_cons_zero, List.set_cons_succ])
                  | (refine Txt.tl_load (v := ?_) (by rfl) (by rfl) (by rfl) (by kernel_rfl) ?_ ?_; rotate_left; (focus (first | assumption | (go_simp; done) | (go_simp; with_reducible rfl))); simp only [Act.put, List.setIfInBounds_toArray, List.set_cons_zero, List.set_cons_succ])
                  | (refine Txt.tl_alloc (by rfl) ?_; go_simp; refine ⟨by (first | exact Txt.Le.alloc_drew _ _ | exact Txt.Le.alloc _ _), ?_⟩))
                clear hs1
                refine Txt.tl_loud (by rfl) ?_
                go_simp
                refine (rtext_back _ w3.heap.size _ _ T S 65535 (HR5.out.keep (Keep.refl (fun _ => False) _).drew (fun h => h)) Hrt.out).mono ?_
                rintro e w6 ⟨rfl, h6, k6⟩
                have HR6 : Hid _ := h6
                have HK6 : Hid (Keep _ W w6) := (HK5.out.drew).any2 k6 (fun y (e : y = _) => by have := Hz3.out; omega)
                clear h6 k6
                obtain ⟨q0, q1, q2, q3⟩ := cells4 Hr.out HK6.out hb1
                simp only at q0 q1 q2 q3
                dsimp only
                refine ⟨⟨q1, q3⟩, ?_⟩
                have hs2 : w6.cell? ⟨b0, off + j * 4 + 1, none⟩ = some (.int .i64 N) ∧ w6.cell? ⟨b0, off + j * 4 + 3, none⟩ = some (.string S) := ⟨q1, q3⟩
                repeat (first
                  | (refine Txt.tl_pure (v := ?_) (by rfl) ?_ ?_; rotate_left; (focus (intro _; go_simp; try with_reducible rfl)); simp only [Act.put, List.setIfInBounds_toArray, List.set_cons_zero, List.set_cons_succ])
                  | (refine Txt.tl_skip (by rfl) (by first | trivial | assumption) ?_; simp only [Act.put, List.setIfInBounds_toArray, List.set_cons_zero, List.set_cons_succ])
                  | (refine Txt.tl_load (v := ?_) (by rfl) (by rfl) (by rfl) (by kernel_rfl) ?_ ?_; rotate_left; (focus (first | assumption | (go_simp; done) | (go_simp; with_reducible rfl))); simp only [Act.put, List.setIfInBounds_toArray, List.set_cons_zero, List.set_cons_succ])
                  | (refine Txt.tl_alloc (by rfl) ?_; go_simp; refine ⟨by (first | exact Txt.Le.alloc_drew _ _ | exact Txt.Le.alloc _ _), ?_⟩))
                refine Txt.tl_loadS (v := .string S) (by rfl) (by rfl) (by rfl) (by kernel_rfl) (fun _ h => h.2) ?_
                simp only [Act.put, List.setIfInBounds_toArray, List.set_cons_zero, List.set_cons_succ]
                repeat (first
                  | (refine Txt.tl_pure (v := ?_) (by rfl) ?_ ?_; rotate_left; (focus (intro _; go_simp; try with_reducible rfl)); simp only [Act.put, List.setIfInBounds_toArray, List.set_cons_zero, List.set_cons_succ])
                  | (refine Txt.tl_skip (by rfl) (by first | trivial | assumption) ?_; simp only [Act.put, List.setIfInBounds_toArray, List.set_cons_zero, List.set_cons_succ])
                  | (refine Txt.tl_load (v := ?_) (by rfl) (by rfl) (by rfl) (by kernel_rfl) ?_ ?_; rotate_left; (focus (first | assumption | (go_simp; done) | (go_simp; with_reducible rfl))); simp only [Act.put, List.setIfInBounds_toArray, List.set_cons_zero, List.set_cons_succ])
                  | (refine Txt.tl_alloc (by rfl) ?_; go_simp; refine ⟨by (first | exact Txt.Le.alloc_drew _ _ | exact Txt.Le.alloc _ _), ?_⟩))
                refine Txt.tl_nil ?_
                clear hs2
                go_wp2
                go_roundw
                case rel => exact ⟨j + 1, by omega, rfl, HR6.out, HK6.out⟩
                case measure => simp [intOf]; omega
            · obtain rfl : j = 40 := by omega
              have hTz : T.size = bs.length + beh.size := HTs.out
              have HR6 : Hid (IsR wr w3.heap.size T bs.length 0) := by rw [← Hbs.out]; exact HR5.out
              clear hTz
              by_cases hbe : beh = ByteArray.empty
              · subst hbe
                have Hev : Hid ((if bs.length = T.size then (0 : Int) else 4) = 0) := if_pos (by rw [HTs.out]; rfl)
                go_wp2_with (first | (go_at_call 23; refine (left_back _ _ _ T _ HR6.out HTs.out).mono ?_; rintro e w7 ⟨rfl, k7⟩; have HR7 : Hid _ := HR6.out.keep k7 (fun h => h); have HK7 : Hid _ := HK5.out.any2 k7 (fun _ h => h.elim); clear k7) | (go_at_call 24; refine (err_any _ _ _ _ _ HR7.out).mono ?_; rintro e w8 ⟨rfl, rfl⟩) | (go_at_call 25; refine (end_back _ _ _ T 0 HR7.out Hev.out).mono ?_; rintro e w9 ⟨rfl, k9⟩; have HK9 : Hid _ := HK7.out.any2 k9 (fun _ h => h.elim); clear k9) | (go_at_call 15; refine (Law.awake_true _).mono ?_; rintro e w10 ⟨rfl, k10⟩; have HK10 : Hid _ := HK9.out.any2 k10 (fun _ h => h.elim); clear k10))
                go_ret
                exact ⟨rfl, Keep.below (S := fun y => W.heap.size ≤ y) HK10.out (Nat.le_refl _) (fun _ h => h)⟩
              · have hbz : 0 < beh.size := Nat.pos_of_ne_zero fun e => hbe (ByteArray.ext (Array.eq_empty_of_size_eq_zero e))
                have Hbz : Hid _ := hbz
                clear hbz
                have Hev : Hid ((if bs.length = T.size then (0 : Int) else 4) = 4) := if_neg (by have h1 := Hbz.out; have h2 := HTs.out; omega)
                have hbe2 : ¬ beh.toList = [] := by rw [Lib.toList_data]; intro h; have := Hbz.out; have h2 := congrArg List.length h; simp only [Array.length_toList, List.length_nil] at h2; change beh.size = 0 at h2; omega
                have hbe3 : beh.toList.isEmpty = false := by simpa using hbe2
                go_wp2_with (first | (go_at_call 23; refine (left_back _ _ _ T _ HR6.out HTs.out).mono ?_; rintro e w7 ⟨rfl, k7⟩; have HR7 : Hid _ := HR6.out.keep k7 (fun h => h); have HK7 : Hid _ := HK5.out.any2 k7 (fun _ h => h.elim); clear k7) | (go_at_call 24; refine (err_any _ _ _ _ _ HR7.out).mono ?_; rintro e w8 ⟨rfl, rfl⟩) | (go_at_call 25; refine (end_back _ _ _ T 4 HR7.out Hev.out).mono ?_; rintro e w9 ⟨rfl, k9⟩; have HK9 : Hid _ := HK7.out.any2 k9 (fun _ h => h.elim); clear k9) | (go_at_call 15; refine (Law.awake_true _).mono ?_; rintro e w10 ⟨rfl, k10⟩; have HK10 : Hid _ := HK9.out.any2 k10 (fun _ h => h.elim); clear k10))
                go_ret
                exact ⟨rfl, Keep.below (S := fun y => W.heap.size ≤ y) HK10.out (Nat.le_refl _) (fun _ h => h)⟩
        · obtain rfl : k = len := by omega
          go_wp2_with (first | (go_at_call 14; refine (done_ok _ _ _ _ _ Hw.out rfl).mono ?_; rintro e w3 ⟨rfl, k3⟩; have Hk3 : Hid _ := HR.out.keep.any2 k3 (fun _ h => h.elim); clear k3) | (go_at_call 16; refine (open_any _ T (by rw [HTs.out]; unfold maxLen; omega)).mono ?_; rintro e w4 ⟨rfl, h4, k4⟩; have H4 : Hid _ := h4; have Hk4 : Hid _ := Hk3.out.any2 k4 (fun _ h => h.elim); clear h4 k4))
          have Hz3 : Hid (W.heap.size ≤ w3.heap.size) := Hk3.out.size
          go_loopw [10] (fun i w5 => ∃ (j : Nat), j ≤ k ∧ i = .int .i64 j ∧ IsR w5 w3.heap.size T (st els j).1.length 0 ∧ Keep (fun y => W.heap.size ≤ y) W w5) (fun i _ => k - (intOf i).toNat)
          case atStart => exact ⟨0, Nat.zero_le _, rfl, H4.out, Hk4.out⟩
          case round =>
            obtain ⟨j, hj, rfl, hr0, hk0⟩ := hrel
            have HR5 : Hid _ := hr0
            have HK5 : Hid _ := hk0
            clear hr0 hk0
            by_cases hjm : j < k
            · obtain ⟨x, hx⟩ : ∃ x, els[j]? = some x := ⟨_, List.getElem?_eq_getElem (by omega)⟩
              obtain ⟨K, N, Z, S, u⟩ := x
              have Hr : Hid _ := (hat j _ hx).1
              have Hm : Hid _ := hmeet.out j _ hx hjm
              have had2 : ad = some ⟨b0, off, none⟩ := by rcases had with e | e; omega; exact e
              have hb1 : b0 < W.heap.size := by rcases hb0 with e | e; omega; exact e
              clear hx hat hsm had hb0
              subst had2
              obtain ⟨g0, g1, g2, g3⟩ := cells4 Hr.out HK5.out hb1
              simp only at g0 g1 g2 g3
              have hj40 : j < 40 := by omega
              have hs0 : wr.drew.cell? ⟨b0, off + j * 4 + 1, none⟩ = some (.int .i64 N) ∧ wr.drew.cell? ⟨b0, off + j * 4 + 3, none⟩ = some (.string S) := ⟨g1, g3⟩
              have Hs0 : Hid _ := hs0
              clear hs0
              by_cases hK : K = 0
              · subst hK
                obtain ⟨hN0, hrn⟩ := Hm.out.1 rfl
                have HN0 : Hid _ := hN0
                have Hrn : Hid _ := hrn
                clear hN0 hrn
                go_wp2
                refine Txt.wp_region_text (fun w' => w'.cell? ⟨b0, off + j * 4 + 1, none⟩ = some (.int .i64 N) ∧ w'.cell? ⟨b0, off + j * 4 + 3, none⟩ = some (.string S)) [0, 0, 0, 0, 1, 0, 0, 0, 0, 0, 0, 0, 1, 4, 0, 0, 0, 0, 2, 0, 0, 0, 0, 0, 0, 0, 1, 0, 0, 0, 4, 0, 0, 0, 0, 2, 0, 0, 0] (by kernel_rfl) (by kernel_rfl) Hs0.out ?_
                have hs1 := Hs0.out
                repeat (first
                  | (refine Txt.tl_pure (v := ?_) (by rfl) ?_ ?_; rotate_left; (focus (intro _; go_simp; try with_reducible rfl)); simp only [Act.put, List.setIfInBounds_toArray, List.set_cons_zero, List.set_cons_succ])
                  | (refine Txt.tl_skip (by rfl) (by first | trivial | assumption) ?_; simp only [Act.put, List.setIfInBounds_toArray, List.set_cons_zero, List.set_cons_succ])
                  | (refine Txt.tl_load (v := ?_) (by rfl) (by rfl) (by rfl) (by kernel_rfl) ?_ ?_; rotate_left; (focus (first | assumption | (go_simp; done) | (go_simp; with_reducible rfl))); simp only [Act.put, List.setIfInBounds_toArray, List.set_cons_zero, List.set_cons_succ])
                  | (refine Txt.tl_alloc (by rfl) ?_; go_simp; refine ⟨by (first | exact Txt.Le.alloc_drew _ _ | exact Txt.Le.alloc _ _), ?_⟩))
                clear hs1
                refine Txt.tl_loud (by rfl) ?_
                go_simp
                refine (rnum_back _ w3.heap.size _ _ T N Z (HR5.out.keep (Keep.refl (fun _ => False) _).drew (fun h => h)) Hrn.out HN0.out).mono ?_
                rintro e w6 ⟨rfl, h6, k6⟩
                have HR6 : Hid _ := h6
                have HK6 : Hid (Keep _ W w6) := (HK5.out.drew).any2 k6 (fun y (e : y = _) => by have := Hz3.out; omega)
                clear h6 k6
                obtain ⟨q0, q1, q2, q3⟩ := cells4 Hr.out HK6.out hb1
                simp only at q0 q1 q2 q3
                dsimp only
                refine ⟨⟨q1, q3⟩, ?_⟩
                have hs2 : w6.cell? ⟨b0, off + j * 4 + 1, none⟩ = some (.int .i64 N) ∧ w6.cell? ⟨b0, off + j * 4 + 3, none⟩ = some (.string S) := ⟨q1, q3⟩
                repeat (first
                  | (refine Txt.tl_pure (v := ?_) (by rfl) ?_ ?_; rotate_left; (focus (intro _; go_simp; try with_reducible rfl)); simp only [Act.put, List.setIfInBounds_toArray, List.set_cons_zero, List.set_cons_succ])
                  | (refine Txt.tl_skip (by rfl) (by first | trivial | assumption) ?_; simp only [Act.put, List.setIfInBounds_toArray, List.set_cons_zero, List.set_cons_succ])
                  | (refine Txt.tl_load (v := ?_) (by rfl) (by rfl) (by rfl) (by kernel_rfl) ?_ ?_; rotate_left; (focus (first | assumption | (go_simp; done) | (go_simp; with_reducible rfl))); simp only [Act.put, List.setIfInBounds_toArray, List.set_cons_zero, List.set_cons_succ])
                  | (refine Txt.tl_alloc (by rfl) ?_; go_simp; refine ⟨by (first | exact Txt.Le.alloc_drew _ _ | exact Txt.Le.alloc _ _), ?_⟩))
                refine Txt.tl_loadS (v := .int .i64 N) (by rfl) (by rfl) (by rfl) (by kernel_rfl) (fun _ h => h.1) ?_
                simp only [Act.put, List.setIfInBounds_toArray, List.set_cons_zero, List.set_cons_succ]
                repeat (first
                  | (refine Txt.tl_pure (v := ?_) (by rfl) ?_ ?_; rotate_left; (focus (intro _; go_simp; try with_reducible rfl)); simp only [Act.put, List.setIfInBounds_toArray, List.set_cons_zero, List.set_cons_succ])
                  | (refine Txt.tl_skip (by rfl) (by first | trivial | assumption) ?_; simp only [Act.put, List.setIfInBounds_toArray, List.set_cons_zero, List.set_cons_succ])
                  | (refine Txt.tl_load (v := ?_) (by rfl) (by rfl) (by rfl) (by kernel_rfl) ?_ ?_; rotate_left; (focus (first | assumption | (go_simp; done) | (go_simp; with_reducible rfl))); simp only [Act.put, List.setIfInBounds_toArray, List.set_cons_zero, List.set_cons_succ])
                  | (refine Txt.tl_alloc (by rfl) ?_; go_simp; refine ⟨by (first | exact Txt.Le.alloc_drew _ _ | exact Txt.Le.alloc _ _), ?_⟩))
                refine Txt.tl_nil ?_
                clear hs2
                go_wp2
                go_roundw
                case rel => exact ⟨j + 1, by omega, rfl, HR6.out, HK6.out⟩
                case measure => simp [intOf]; omega
              · have hK0 : (K == 0) = false := by simpa using hK
                have hK2 : (K != 0) = true := by simpa using hK
                have Hrt : Hid _ := Hm.out.2 hK
                go_wp2
                refine Txt.wp_region_text (fun w' => w'.cell? ⟨b0, off + j * 4 + 1, none⟩ = some (.int .i64 N) ∧ w'.cell? ⟨b0, off + j * 4 + 3, none⟩ = some (.string S)) [0, 0, 0, 0, 1, 0, 0, 0, 0, 0, 0, 0, 1, 4, 0, 0, 0, 0, 2, 0, 0, 0, 0, 0, 0, 0, 1, 0, 0, 0, 4, 0, 0, 0, 0, 2, 0, 0, 0] (by kernel_rfl) (by kernel_rfl) Hs0.out ?_
                have hs1 := Hs0.out
                repeat (first
                  | (refine Txt.tl_pure (v := ?_) (by rfl) ?_ ?_; rotate_left; (focus (intro _; go_simp; try with_reducible rfl)); simp only [Act.put, List.setIfInBounds_toArray, List.set_cons_zero, List.set_cons_succ])
                  | (refine Txt.tl_skip (by rfl) (by first | trivial | assumption) ?_; simp only [Act.put, List.setIfInBounds_toArray, List.set_cons_zero, List.set_cons_succ])
                  | (refine Txt.tl_load (v := ?_) (by rfl) (by rfl) (by rfl) (by kernel_rfl) ?_ ?_; rotate_left; (focus (first | assumption | (go_simp; done) | (go_simp; with_reducible rfl))); simp only [Act.put, List.setIfInBounds_toArray, List.set_cons_zero, List.set_cons_succ])
                  | (refine Txt.tl_alloc (by rfl) ?_; go_simp; refine ⟨by (first | exact Txt.Le.alloc_drew _ _ | exact Txt.Le.alloc _ _), ?_⟩))
                clear hs1
                refine Txt.tl_loud (by rfl) ?_
                go_simp
                refine (rtext_back _ w3.heap.size _ _ T S 65535 (HR5.out.keep (Keep.refl (fun _ => False) _).drew (fun h => h)) Hrt.out).mono ?_
                rintro e w6 ⟨rfl, h6, k6⟩
                have HR6 : Hid _ := h6
                have HK6 : Hid (Keep _ W w6) := (HK5.out.drew).any2 k6 (fun y (e : y = _) => by have := Hz3.out; omega)
                clear h6 k6
                obtain ⟨q0, q1, q2, q3⟩ := cells4 Hr.out HK6.out hb1
                simp only at q0 q1 q2 q3
                dsimp only
                refine ⟨⟨q1, q3⟩, ?_⟩
                have hs2 : w6.cell? ⟨b0, off + j * 4 + 1, none⟩ = some (.int .i64 N) ∧ w6.cell? ⟨b0, off + j * 4 + 3, none⟩ = some (.string S) := ⟨q1, q3⟩
                repeat (first
                  | (refine Txt.tl_pure (v := ?_) (by rfl) ?_ ?_; rotate_left; (focus (intro _; go_simp; try with_reducible rfl)); simp only [Act.put, List.setIfInBounds_toArray, List.set_cons_zero, List.set_cons_succ])
                  | (refine Txt.tl_skip (by rfl) (by first | trivial | assumption) ?_; simp only [Act.put, List.setIfInBounds_toArray, List.set_cons_zero, List.set_cons_succ])
                  | (refine Txt.tl_load (v := ?_) (by rfl) (by rfl) (by rfl) (by kernel_rfl) ?_ ?_; rotate_left; (focus (first | assumption | (go_simp; done) | (go_simp; with_reducible rfl))); simp only [Act.put, List.setIfInBounds_toArray, List.set_cons_zero, List.set_cons_succ])
                  | (refine Txt.tl_alloc (by rfl) ?_; go_simp; refine ⟨by (first | exact Txt.Le.alloc_drew _ _ | exact Txt.Le.alloc _ _), ?_⟩))
                refine Txt.tl_loadS (v := .string S) (by rfl) (by rfl) (by rfl) (by kernel_rfl) (fun _ h => h.2) ?_
                simp only [Act.put, List.setIfInBounds_toArray, List.set_cons_zero, List.set_cons_succ]
                repeat (first
                  | (refine Txt.tl_pure (v := ?_) (by rfl) ?_ ?_; rotate_left; (focus (intro _; go_simp; try with_reducible rfl)); simp only [Act.put, List.setIfInBounds_toArray, List.set_cons_zero, List.set_cons_succ])
                  | (refine Txt.tl_skip (by rfl) (by first | trivial | assumption) ?_; simp only [Act.put, List.setIfInBounds_toArray, List.set_cons_zero, List.set_cons_succ])
                  | (refine Txt.tl_load (v := ?_) (by rfl) (by rfl) (by rfl) (by kernel_rfl) ?_ ?_; rotate_left; (focus (first | assumption | (go_simp; done) | (go_simp; with_reducible rfl))); simp only [Act.put, List.setIfInBounds_toArray, List.set_cons_zero, List.set_cons_succ])
                  | (refine Txt.tl_alloc (by rfl) ?_; go_simp; refine ⟨by (first | exact Txt.Le.alloc_drew _ _ | exact Txt.Le.alloc _ _), ?_⟩))
                refine Txt.tl_nil ?_
                clear hs2
                go_wp2
                go_roundw
                case rel => exact ⟨j + 1, by omega, rfl, HR6.out, HK6.out⟩
                case measure => simp [intOf]; omega
            · obtain rfl : j = k := by omega
              have hTz : T.size = bs.length + beh.size := HTs.out
              have HR6 : Hid (IsR wr w3.heap.size T bs.length 0) := by rw [← Hbs.out]; exact HR5.out
              clear hTz
              by_cases hbe : beh = ByteArray.empty
              · subst hbe
                have Hev : Hid ((if bs.length = T.size then (0 : Int) else 4) = 0) := if_pos (by rw [HTs.out]; rfl)
                go_wp2_with (first | (go_at_call 23; refine (left_back _ _ _ T _ HR6.out HTs.out).mono ?_; rintro e w7 ⟨rfl, k7⟩; have HR7 : Hid _ := HR6.out.keep k7 (fun h => h); have HK7 : Hid _ := HK5.out.any2 k7 (fun _ h => h.elim); clear k7) | (go_at_call 24; refine (err_any _ _ _ _ _ HR7.out).mono ?_; rintro e w8 ⟨rfl, rfl⟩) | (go_at_call 25; refine (end_back _ _ _ T 0 HR7.out Hev.out).mono ?_; rintro e w9 ⟨rfl, k9⟩; have HK9 : Hid _ := HK7.out.any2 k9 (fun _ h => h.elim); clear k9) | (go_at_call 15; refine (Law.awake_true _).mono ?_; rintro e w10 ⟨rfl, k10⟩; have HK10 : Hid _ := HK9.out.any2 k10 (fun _ h => h.elim); clear k10))
                go_ret
                exact ⟨rfl, Keep.below (S := fun y => W.heap.size ≤ y) HK10.out (Nat.le_refl _) (fun _ h => h)⟩
              · have hbz : 0 < beh.size := Nat.pos_of_ne_zero fun e => hbe (ByteArray.ext (Array.eq_empty_of_size_eq_zero e))
                have Hbz : Hid _ := hbz
                clear hbz
                have Hev : Hid ((if bs.length = T.size then (0 : Int) else 4) = 4) := if_neg (by have h1 := Hbz.out; have h2 := HTs.out; omega)
                have hbe2 : ¬ beh.toList = [] := by rw [Lib.toList_data]; intro h; have := Hbz.out; have h2 := congrArg List.length h; simp only [Array.length_toList, List.length_nil] at h2; change beh.size = 0 at h2; omega
                have hbe3 : beh.toList.isEmpty = false := by simpa using hbe2
                go_wp2_with (first | (go_at_call 23; refine (left_back _ _ _ T _ HR6.out HTs.out).mono ?_; rintro e w7 ⟨rfl, k7⟩; have HR7 : Hid _ := HR6.out.keep k7 (fun h => h); have HK7 : Hid _ := HK5.out.any2 k7 (fun _ h => h.elim); clear k7) | (go_at_call 24; refine (err_any _ _ _ _ _ HR7.out).mono ?_; rintro e w8 ⟨rfl, rfl⟩) | (go_at_call 25; refine (end_back _ _ _ T 4 HR7.out Hev.out).mono ?_; rintro e w9 ⟨rfl, k9⟩; have HK9 : Hid _ := HK7.out.any2 k9 (fun _ h => h.elim); clear k9) | (go_at_call 15; refine (Law.awake_true _).mono ?_; rintro e w10 ⟨rfl, k10⟩; have HK10 : Hid _ := HK9.out.any2 k10 (fun _ h => h.elim); clear k10))
                go_ret
                exact ⟨rfl, Keep.below (S := fun y => W.heap.size ≤ y) HK10.out (Nat.le_refl _) (fun _ h => h)⟩
      · have hb1 : (bad != 0) = true := by simpa using hb
        by_cases hlt2 : k < len
        · obtain rfl : k = 40 := by omega
          go_wp2_with (first | (go_at_call 14; refine (done_err _ _ _ _ _ Hw.out hb).mono ?_; rintro e w3 ⟨rfl, k3⟩; have Hk3 : Hid _ := HR.out.keep.any2 k3 (fun _ h => h.elim); clear k3) | (go_at_call 15; refine (Law.awake_true _).mono ?_; rintro e w4 ⟨rfl, k4⟩; have Hk4 : Hid _ := Hk3.out.any2 k4 (fun _ h => h.elim); clear k4))
          go_ret
          exact ⟨rfl, Keep.below (S := fun y => W.heap.size ≤ y) Hk4.out (Nat.le_refl _) (fun _ h => h)⟩
        · obtain rfl : k = len := by omega
          go_wp2_with (first | (go_at_call 14; refine (done_err _ _ _ _ _ Hw.out hb).mono ?_; rintro e w3 ⟨rfl, k3⟩; have Hk3 : Hid _ := HR.out.keep.any2 k3 (fun _ h => h.elim); clear k3) | (go_at_call 15; refine (Law.awake_true _).mono ?_; rintro e w4 ⟨rfl, k4⟩; have Hk4 : Hid _ := Hk3.out.any2 k4 (fun _ h => h.elim); clear k4))
          go_ret
          exact ⟨rfl, Keep.below (S := fun y => W.heap.size ≤ y) Hk4.out (Nat.le_refl _) (fun _ h => h)⟩

theorem own : ownKnob Try.prog.godebug = none := by kernel_rfl
theorem laidOut : laidOutB Try.prog = true := by kernel_rfl
theorem contract (H : Type) (enc : TypeId × Value → H) (W : World) (base : Nat) (args : Array Value) (ds gs : List (DataW H)) (before : List MemPlace)
    (hval : ∀ (j : Nat) t v, Try.f5.params[j]? = some t → args[j]? = some v → Value.okWide Try.prog W .any base t v)
    (hW : DataW.Whole enc Try.prog Try.f5.params.toList Rows.octetBackSpec.vars false W args.toList ds gs before) (hk : Rows.uptoSmall H (ds ++ gs) = true) :
    Calls Try.prog 5 args W fun e W' => ∃ v, e = .returned v ∧ Rows.octetBackSpec.post enc Try.prog Try.f5 false true false false W args v W' := by
  have hW' := hW
  have hk' : Rows.uptoBulkAll (ds ++ gs) ≤ 1048576 := of_decide_eq_true hk
  obtain ⟨p, q, hA0, hV, rfl, hfz, hnd⟩ := hW
  have hA : DataW.TrodAll enc Try.prog W 0 (fun _ => true) true Try.f5.params.toList args.toList ds p := hA0
  rw [Try.params5] at hA hval
  obtain ⟨rfl, rfl⟩ := trodVars_none hV
  rw [List.append_nil] at hk'
  obtain ⟨v0, vs0, d0, ds0, p0, q0, hargs, rfl, rfl, h0, r0⟩ := trodAll_cons hA
  obtain ⟨v1, vs1, d1, ds1, p1, q1, rfl, rfl, rfl, h1, r1⟩ := trodAll_cons r0
  obtain ⟨rfl, rfl, rfl⟩ := trodAll_nil r1
  obtain rfl : args = #[v0, v1] := by cases args; simp_all
  obtain ⟨s, rfl, rfl, rfl, hs⟩ := open_string Try.underlying9 (hval 1 _ v1 rfl rfl) h1
  obtain ⟨⟨a, len, cap, els⟩, rfl, hat, hbk⟩ := Opn.open_sl Try.underlying22 rdl (hval 0 _ v0 rfl rfl) h0
  obtain ⟨e1, e2, e3, e4⟩ := hat
  simp only at e1 e2 e3 e4 hbk
  simp only [Rows.uptoBulkAll, Rows.uptoBulk, Array.length_toList] at hk'
  change _ + (s.size + 1 + _) ≤ _ at hk'
  have hsm : ∀ x ∈ els, x.2.2.2.1.size ≤ 1048576 := by
    intro x hx
    have := sum_le els x hx
    unfold bulk at this hbk
    omega
  have key : Calls Try.prog 5 #[.slice a len cap, .string s] W fun e W' => e = .returned (.bool true) ∧ Below W.heap.size W W' := by
    rcases e4 with e4 | ⟨b, off, rfl, hb, hel⟩
    · subst e4
      obtain rfl : els = [] := List.length_eq_zero_iff.1 e1
      exact go s 0 0 0 cap [] W (by omega) rfl (.inl rfl) (Nat.zero_le _) a (.inl rfl) (fun i x h => by simp at h) (fun x h => by simp at h)
    · exact go s b off len cap els W (by omega) e1 (.inr hb) (Nat.le_trans e2 e3) _ (.inr rfl) hel hsm
  refine key.mono fun e W' ⟨he, bel⟩ => ?_
  subst he
  exact ⟨_, rfl, Opn.law_post laidOut (by kernel_rfl) rfl Try.underlying4 rfl rfl hW' bel⟩
set_option maxRecDepth 100000 in
theorem lifted (os : Os) (started : os.Started) (H : Type) (enc : TypeId × Value → H) (F : Stop.Interp) :
    ReturnsInHanded {} Try.checked os 5 .any ((Rows.OpenSpec.upto Rows.octetBackSpec).pre6 enc Try.prog Try.f5 Rows.octetBackUptoRow.domain false) (((Rows.OpenSpec.upto Rows.octetBackSpec).at F).post enc Try.prog Try.f5 false true false false) := by
  refine returnsInHanded_of_cond (C := Try.checked) (s := Rows.OpenSpec.upto Rows.octetBackSpec) (k := Rows.uptoSmall) rfl own started (by kernel_rfl) Try.func5
    (OpenSpec.witness (enc := enc) (C := Try.checked) (s := Rows.OpenSpec.upto Rows.octetBackSpec) (k := Rows.uptoSmall) rfl false ⟨#[], #[.slice none 0 0, .string .empty], []⟩ 8 (by kernel_rfl) (by kernel_rfl) (by kernel_rfl)
      (x := ([.nil, .lit (.string [])], [], [])) (by kernel_rfl) rfl (by kernel_rfl)) ?_
  intro W base args ds gs before hval hW _ hk _
  exact contract H enc W base args ds gs before hval hW hk
theorem over : Rows.octetBackUptoRow.holds Try.pinned (Rows.OpenSpec.upto Rows.octetBackSpec) :=
  OpenClaim.holds_of_cond 5 Try.f5 rfl rfl rfl rfl rfl rfl rfl ⟨rfl, rfl, rfl, rfl, rfl⟩ rfl rfl rfl rfl rfl (by kernel_rfl) Try.func5 (by kernel_rfl)
    (of_decide_eq_true (by kernel_rfl)) (by unfold Func.isWrapper; first | (rw [if_pos (by decide +kernel)]; kernel_rfl) | (rw [if_neg (by decide +kernel)]; exact ⟨rfl, rfl⟩))
    (fun os started H enc _ F => lifted os started H enc F)
theorem proved : Rows.OctetBackUptoSaid := over
end OctBk
end Go.Proofs.Ytbeiaobdapapjaa
