/-
  'petrellaw01.OctetWrites': what a row of calls writes is what the document says, call by call.
-/
import Derived.Test.YtbeiaobdapapjaaOctAct
namespace Go.Proofs.Ytbeiaobdapapjaa
open Go.RowKit
namespace OctWr
open Oct Act1 Go.ChangeShapes Go.WideShapes Go.ChangeAt
open Go.ChangeMaps (open_string shut_string)

/-- A call, as the program has it, and as the document answers it. -/
def wact (s : List UInt8 × Int) (x : OAct) : List UInt8 × Int := if x.1 = 0 then wnum s x.2.1 x.2.2.1 else if x.1 = 1 then wtext s x.2.2.2.1 else wraw s x.2.2.2.1
def ract (x : OAct) : ByteArray × Int := if x.1 = 0 then (⟨(Ref.rn x.2.1 x.2.2.1).1.toArray⟩, (Ref.rn x.2.1 x.2.2.1).2) else if x.1 = 1 then Ref.rt x.2.2.2.1 else (x.2.2.2.1, 0)
theorem wact_eq (bs : List UInt8) (bad : Int) (x : OAct) : wact (bs, bad) x = if bad ≠ 0 then (bs, bad) else if (ract x).2 = 0 then (bs ++ (ract x).1.data.toList, 0) else (bs, (ract x).2) := by
  unfold wact ract
  by_cases hb : bad = 0
  · subst hb
    by_cases h0 : x.1 = 0
    · simp only [h0, if_true, wnum, Ref.rn]
      by_cases hk : nbits x.2.2.1 = 0
      · simp [hk]
      · by_cases hr : x.2.1 < 0 ∨ 256 ^ (nbits x.2.2.1 / 8).toNat ≤ x.2.1
        · simp [hk, hr]
        · simp [hk, hr]
    · by_cases h1 : x.1 = 1
      · simp only [h1, wtext, Ref.rt]
        by_cases hl : 65535 < x.2.2.2.1.size
        · simp [hl]
        · simp [hl, List.append_assoc]
      · simp [h0, h1, wraw]
  · simp [hb, wnum, wtext, wraw]
def st (l : List OAct) (k : Nat) : List UInt8 × Int := (l.take k).foldl wact ([], 0)
theorem st_succ (l : List OAct) (k : Nat) (x : OAct) (h : l[k]? = some x) : st l (k + 1) = wact (st l k) x := by
  unfold st
  rw [List.take_add_one, h]
  simp [List.foldl_append]
theorem wact_len (s : List UInt8 × Int) (x : OAct) (h : x.2.2.2.1.size ≤ 1048576) : (wact s x).1.length ≤ s.1.length + 1048580 := by
  obtain ⟨bs, bad⟩ := s
  have hbe : ∀ m n, (be m n).length = m := by
    intro m
    induction m with
    | zero => intro n; rfl
    | succ m ih => intro n; simp [be, ih]
  unfold wact
  split
  · unfold wnum
    split
    · simp
    · split
      · simp
      · split
        · simp
        · have h32 : nbits x.2.2.1 ≤ 32 := by unfold nbits; split <;> (try split) <;> (try split) <;> omega
          simp only [List.length_append, hbe]
          omega
  · split
    · unfold wtext
      split
      · simp
      · split
        · simp
        · simp [hbe]; omega
    · unfold wraw
      split
      · simp
      · simp; omega

theorem parts {bs bs' : List UInt8} {bad bad' re : Int} {x : OAct} {r : ByteArray} (h : wact (bs, bad) x = (bs', bad')) (hr : ract x = (r, re)) :
    (bad ≠ 0 ∧ bs' = bs ∧ bad' = bad) ∨ (bad = 0 ∧ re = 0 ∧ bad' = 0 ∧ bs' = bs ++ r.data.toList) ∨ (bad = 0 ∧ re ≠ 0 ∧ bs' = bs ∧ bad' = re) := by
  rw [wact_eq, hr] at h
  by_cases hb : bad = 0
  · simp only [hb, ne_eq, not_true_eq_false, if_false] at h
    by_cases he : re = 0
    · simp only [he, if_true, Prod.mk.injEq] at h
      exact .inr (.inl ⟨hb, he, h.2.symm, h.1.symm⟩)
    · simp only [he, if_false, Prod.mk.injEq] at h
      exact .inr (.inr ⟨hb, he, h.1.symm, h.2.symm⟩)
  · simp only [ne_eq, hb, not_false_eq_true, if_true, Prod.mk.injEq] at h
    exact .inl ⟨hb, h.1.symm, h.2.symm⟩
theorem done_ok (w : World) (b : Nat) (bs : List UInt8) (sv : Value) (h : IsW w b bs 0 sv) :
    Calls Try.prog 14 #[.pointer (some ⟨b, 0, none⟩)] w fun e w' => e = .returned (.tuple #[.string ⟨bs.toArray⟩, .int .i64 0]) ∧ Keep (fun _ => False) w w' := by
  simpa using done_any w b bs 0 sv h
theorem done_err (w : World) (b : Nat) (bs : List UInt8) (bad : Int) (sv : Value) (h : IsW w b bs bad sv) (hb : bad ≠ 0) :
    Calls Try.prog 14 #[.pointer (some ⟨b, 0, none⟩)] w fun e w' => e = .returned (.tuple #[.string ByteArray.empty, .int .i64 bad]) ∧ Keep (fun _ => False) w w' := by
  have := done_any w b bs bad sv h
  rwa [if_neg hb] at this
theorem _root_.Go.Proofs.Ytbeiaobdapapjaa.Keep.calm {S : Nat → Prop} {a b c : World} (h : Keep S a b) (k : Keep (fun _ => False) b c) : Keep S a c := h.trans' k (fun _ _ h => h) (fun _ _ h => h.elim)
theorem _root_.Go.Proofs.Ytbeiaobdapapjaa.Oct.IsW.drew {w : World} {b : Nat} {bs : List UInt8} {bad : Int} {sv : Value} (h : IsW w b bs bad sv) : IsW w.drew b bs bad sv := h.keep (S := fun _ => False) (Keep.refl _ _).drew (fun h => h) (fun _ _ h => h)
theorem _root_.Go.Proofs.Ytbeiaobdapapjaa.Keep.aft {W a b : World} {sv sv' : Value} (h : Keep (fun y => W.heap.size ≤ y) W a) (k : After a b W.heap.size sv sv') (ho : ∀ x, sv.ownBlock = some x → W.heap.size ≤ x) : Keep (fun y => W.heap.size ≤ y) W b := by
  refine h.trans' k.1 (fun _ _ h => h) (fun y hy e => ?_)
  rcases e with e | e
  · omega
  · exact ho _ e
/-- The relation of the loop. -/
structure Rel (W wr : World) (els : List OAct) (k : Nat) (sv : Value) : Prop where
  w : IsW wr W.heap.size (st els k).1 (st els k).2 sv
  keep : Keep (fun x => W.heap.size ≤ x) W wr
  own : ∀ x, sv.ownBlock = some x → W.heap.size ≤ x
  len : (st els k).1.length ≤ k * 1048580

theorem Rel.next {W w1 w2 w3 : World} {els : List OAct} {k : Nat} {s0 : List UInt8 × Int} {x : OAct} {bs' : List UInt8} {bad' : Int} {sv sv' : Value} (hst : st els (k + 1) = wact s0 x) (hwn : wact s0 x = (bs', bad'))
    (h2 : IsW w2 W.heap.size bs' bad' sv') (k4 : Keep (fun _ => False) w2 w3) (k1 : Keep (fun y => W.heap.size ≤ y) W w1) (k2 : After w1 w2 W.heap.size sv sv') (ho : ∀ x, sv.ownBlock = some x → W.heap.size ≤ x)
    (hl : (wact s0 x).1.length ≤ s0.1.length + 1048580) (hl0 : s0.1.length ≤ k * 1048580) : Rel W w3 els (k + 1) sv' := by
  have e := hst.trans hwn
  refine ⟨?_, (k1.aft k2 ho).calm k4, fun y hy => ?_, ?_⟩
  · rw [e]; exact h2.keep k4 (fun h => h) (fun _ _ h => h)
  · rcases k2.2 y hy with h | h
    · exact ho _ h
    · exact Nat.le_trans k1.size h
  · rw [hst]; omega
set_option maxHeartbeats 4000000 in
set_option maxRecDepth 100000 in
theorem go (b0 off len cap : Nat) (els : List OAct) (W : World) (hels : els.length = len) (hpos : 0 < len) (hb0 : b0 < W.heap.size) (hlm : len ≤ maxLen)
    (hat : ∀ i x, els[i]? = some x → W.rangeAt b0 (off + i * 4) (lay x) ∧ fact W x) (hsm : ∀ x ∈ els, x.2.2.2.1.size ≤ 1048576) :
    Calls Try.prog 3 #[.slice (some ⟨b0, off, none⟩) len cap] W fun e W' => e = .returned (.bool true) ∧ Below W.heap.size W W' := by
  unfold maxLen at hlm
  go_enter Try.func3, Try.ntmps3
  go_wp2_with (first | (go_at_call 8; refine (new_any _).mono ?_; rintro e w1 ⟨rfl, h1, k1⟩; have H1 : Hid _ := h1; have K1 : Hid _ := k1; clear h1 k1))
  go_loopw [4, 5, 6] (fun want bad i wr => ∃ (k : Nat) (sv : Value), (k ≤ len ∧ k ≤ 60) ∧ i = .int .i64 k ∧ want = .string ⟨(st els k).1.toArray⟩ ∧ bad = .int .i64 (st els k).2 ∧ Rel W wr els k sv) (fun _ _ i _ => len - (intOf i).toNat)
  case atStart =>
    refine ⟨0, .slice none 0 0, by omega, rfl, rfl, rfl, ?_⟩
    exact ⟨H1.out, K1.out.mono (fun _ _ h => h.elim), fun x h => by simp [Value.ownBlock] at h, Nat.zero_le _⟩
  case round =>
    obtain ⟨k, sv, hk, rfl, rfl, rfl, hrel⟩ := hrel
    by_cases hlt : k < len ∧ k < 60
    · obtain ⟨hlt, h60⟩ := hlt
      obtain ⟨x, hx⟩ : ∃ x, els[k]? = some x := ⟨_, List.getElem?_eq_getElem (by omega)⟩
      obtain ⟨K, N, Z, S, u⟩ := x
      have Hr : Hid _ := (hat k _ hx).1
      have hS : S.size ≤ 1048576 := hsm _ (List.mem_of_getElem? hx)
      have hKw : Hid (Keep (fun y => W.heap.size ≤ y) W wr) := hrel.keep
      have hW := hrel.w
      have hlen := hrel.len
      have hst := st_succ els k _ hx
      have hwl := wact_len (st els k) (K, N, Z, S, u) hS
      generalize hs0 : st els k = s0 at *
      obtain ⟨bs, bad⟩ := s0
      have HW : Hid _ := hW
      have Hst : Hid _ := hst
      have Hown : Hid _ := hrel.own
      have Hwl : Hid _ := hwl
      have Hlen : Hid _ := hlen
      have hbl : bs.length ≤ 80000000 := by simp only at hlen; omega
      clear hrel hx hat hsm hW hst hs0 hwl hlen
      obtain ⟨g0, g1, g2, g3⟩ := cells4 Hr.out hKw.out hb0
      simp only at g0 g1 g2 g3
      obtain ⟨⟨bs', bad'⟩, hwn⟩ : ∃ z, wact (bs, bad) (K, N, Z, S, u) = z := ⟨_, rfl⟩
      obtain ⟨⟨r, re⟩, hrc⟩ : ∃ z, ract (K, N, Z, S, u) = z := ⟨_, rfl⟩
      have Hp : Hid _ := parts hwn hrc
      have Hwn : Hid _ := hwn
      have Hrc : Hid _ := hrc
      clear hwn hrc
      by_cases hK : K = 0
      · subst hK
        have hrn1 : (⟨(Ref.rn N Z).1.toArray⟩ : ByteArray) = r := congrArg Prod.fst Hrc.out
        have hrn2 : (Ref.rn N Z).2 = re := congrArg Prod.snd Hrc.out
        have Hrn1 : Hid _ := hrn1
        have Hrn2 : Hid _ := hrn2
        clear hrn1 hrn2
        go_wp2
        refine Txt.wp_region_text (fun _ => True) [0, 0, 0, 0, 1, 0, 0, 0, 0, 1, 4, 0, 0, 0, 0, 0] (by kernel_rfl) (by kernel_rfl) trivial ?_
        repeat (first
          | (refine Txt.tl_pure (v := ?_) (by rfl) ?_ ?_; rotate_left; (focus (intro _; go_simp; try with_reducible rfl)); simp only [Act.put, List.setIfInBounds_toArray, List.set_cons_zero, List.set_cons_succ])
          | (refine Txt.tl_skip (by rfl) trivial ?_; simp only [Act.put, List.setIfInBounds_toArray, List.set_cons_zero, List.set_cons_succ])
          | (refine Txt.tl_load (v := ?_) (by rfl) (by rfl) (by rfl) (by kernel_rfl) ?_ ?_; rotate_left; (focus (first | assumption | (go_simp; done) | (go_simp; with_reducible rfl))); simp only [Act.put, List.setIfInBounds_toArray, List.set_cons_zero, List.set_cons_succ])
          | (refine Txt.tl_alloc (by rfl) ?_; go_simp; refine ⟨by (first | exact Txt.Le.alloc_drew _ _ | exact Txt.Le.alloc _ _), ?_⟩))
        refine Txt.tl_loud (by rfl) ?_
        go_simp
        refine (Ref.num_any _ N Z).mono ?_
        rw [Hrn1.out, Hrn2.out]
        rintro e w1 ⟨rfl, k1⟩
        have Hk1 : Hid (Keep _ W w1) := hKw.out.drew.calm k1
        have Hw1 : Hid (IsW w1 W.heap.size bs bad sv) := (HW.out.drew).keep k1 (fun h => h) (fun _ _ h => h)
        clear k1
        obtain ⟨q0, q1, q2, q3⟩ := cells4 Hr.out Hk1.out hb0
        simp only at q0 q1 q2 q3
        dsimp only
        repeat (first
          | (refine Txt.tl_pure (v := ?_) (by rfl) ?_ ?_; rotate_left; (focus (intro _; go_simp; try with_reducible rfl)); simp only [Act.put, List.setIfInBounds_toArray, List.set_cons_zero, List.set_cons_succ])
          | (refine Txt.tl_skip (by rfl) trivial ?_; simp only [Act.put, List.setIfInBounds_toArray, List.set_cons_zero, List.set_cons_succ])
          | (refine Txt.tl_load (v := ?_) (by rfl) (by rfl) (by rfl) (by kernel_rfl) ?_ ?_; rotate_left; (focus (first | assumption | (go_simp; done) | (go_simp; with_reducible rfl))); simp only [Act.put, List.setIfInBounds_toArray, List.set_cons_zero, List.set_cons_succ])
          | (refine Txt.tl_alloc (by rfl) ?_; go_simp; refine ⟨by (first | exact Txt.Le.alloc_drew _ _ | exact Txt.Le.alloc _ _), ?_⟩))
        refine Txt.tl_nil ?_
        go_wp2
        refine Txt.wp_region_text (fun _ => True) [0, 0, 0, 0, 0, 1, 0, 0, 0, 0, 1, 4] (by kernel_rfl) (by kernel_rfl) trivial ?_
        repeat (first
          | (refine Txt.tl_pure (v := ?_) (by rfl) ?_ ?_; rotate_left; (focus (intro _; go_simp; try with_reducible rfl)); simp only [Act.put, List.setIfInBounds_toArray, List.set_cons_zero, List.set_cons_succ])
          | (refine Txt.tl_skip (by rfl) trivial ?_; simp only [Act.put, List.setIfInBounds_toArray, List.set_cons_zero, List.set_cons_succ])
          | (refine Txt.tl_load (v := ?_) (by rfl) (by rfl) (by rfl) (by kernel_rfl) ?_ ?_; rotate_left; (focus (first | assumption | (go_simp; done) | (go_simp; with_reducible rfl))); simp only [Act.put, List.setIfInBounds_toArray, List.set_cons_zero, List.set_cons_succ])
          | (refine Txt.tl_alloc (by rfl) ?_; go_simp; refine ⟨by (first | exact Txt.Le.alloc_drew _ _ | exact Txt.Le.alloc _ _), ?_⟩))
        refine Txt.tl_loud (by rfl) ?_
        go_simp
        refine (Oct.num_any _ W.heap.size bs bad N Z sv Hw1.out.drew (by omega)).mono ?_
        rw [show wnum (bs, bad) N Z = (bs', bad') from Hwn.out]
        rintro e w2 ⟨rfl, sv', h2, k2⟩
        have Hw2 : Hid (IsW w2 W.heap.size bs' bad' sv') := h2
        have Hk2 : Hid (After w1.drew w2 W.heap.size sv sv') := k2
        have Hk1 : Hid (Keep _ W w1.drew) := Hk1.out.drew
        have Hk3 : Hid (Keep _ W w2) := Hk1.out.aft k2 Hown.out
        clear h2 k2
        dsimp only
        repeat (first
          | (refine Txt.tl_pure (v := ?_) (by rfl) ?_ ?_; rotate_left; (focus (intro _; go_simp; try with_reducible rfl)); simp only [Act.put, List.setIfInBounds_toArray, List.set_cons_zero, List.set_cons_succ])
          | (refine Txt.tl_skip (by rfl) trivial ?_; simp only [Act.put, List.setIfInBounds_toArray, List.set_cons_zero, List.set_cons_succ])
          | (refine Txt.tl_load (v := ?_) (by rfl) (by rfl) (by rfl) (by kernel_rfl) ?_ ?_; rotate_left; (focus (first | assumption | (go_simp; done) | (go_simp; with_reducible rfl))); simp only [Act.put, List.setIfInBounds_toArray, List.set_cons_zero, List.set_cons_succ])
          | (refine Txt.tl_alloc (by rfl) ?_; go_simp; refine ⟨by (first | exact Txt.Le.alloc_drew _ _ | exact Txt.Le.alloc _ _), ?_⟩))
        refine Txt.tl_nil ?_
        rcases Hp.out with ⟨hb, rfl, rfl⟩ | ⟨rfl, rfl, rfl, hcat⟩ | ⟨rfl, hb, rfl, rfl⟩
        · have hb1 : (bad' == 0) = false := by simpa using hb
          have hb2 : (bad' != 0) = true := by simpa using hb
          go_wp2_with (first | (go_at_call 14; refine (done_err _ _ _ _ _ Hw2.out hb).mono ?_; rintro e w3 ⟨rfl, k3⟩; have Hk4 : Hid _ := k3; clear k3))
          go_roundw
          case rel =>
            refine ⟨k + 1, sv', by omega, rfl, ?_, ?_, Rel.next Hst.out Hwn.out Hw2.out Hk4.out Hk1.out Hk2.out Hown.out Hwl.out Hlen.out⟩
            · rw [Hst.out, Hwn.out]
            · rw [Hst.out, Hwn.out]
          case measure => simp [intOf]; omega
        · have hcat2 : (⟨bs.toArray⟩ : ByteArray) ++ r = ⟨bs'.toArray⟩ := by rw [hcat]; exact ByteArray.ext (by simp)
          have hsz : bs.length + r.size ≤ 140737488355328 := by
            have h1 := Hwl.out
            rw [Hwn.out, hcat] at h1
            simp only [List.length_append, Array.length_toList] at h1
            change _ + r.size ≤ _ at h1
            omega
          have Hcat : Hid _ := hcat
          clear hcat
          go_wp2_with (first | (go_at_call 14; refine (done_ok _ _ _ _ Hw2.out).mono ?_; rintro e w3 ⟨rfl, k3⟩; have Hk4 : Hid _ := k3; clear k3))
          go_roundw
          case rel =>
            refine ⟨k + 1, sv', by omega, rfl, ?_, ?_, Rel.next Hst.out Hwn.out Hw2.out Hk4.out Hk1.out Hk2.out Hown.out Hwl.out Hlen.out⟩
            · rw [Hst.out, Hwn.out]
            · rw [Hst.out, Hwn.out]
          case measure => simp [intOf]; omega
        · have hb1 : (bad' == 0) = false := by simpa using hb
          have hb2 : (bad' != 0) = true := by simpa using hb
          go_wp2_with (first | (go_at_call 14; refine (done_err _ _ _ _ _ Hw2.out hb).mono ?_; rintro e w3 ⟨rfl, k3⟩; have Hk4 : Hid _ := k3; clear k3))
          go_roundw
          case rel =>
            refine ⟨k + 1, sv', by omega, rfl, ?_, ?_, Rel.next Hst.out Hwn.out Hw2.out Hk4.out Hk1.out Hk2.out Hown.out Hwl.out Hlen.out⟩
            · rw [Hst.out, Hwn.out]
            · rw [Hst.out, Hwn.out]
          case measure => simp [intOf]; omega
      by_cases hK1 : K = 1
      · subst hK1
        have Hrn1 : Hid ((Ref.rt S).1 = r) := congrArg Prod.fst Hrc.out
        have Hrn2 : Hid ((Ref.rt S).2 = re) := congrArg Prod.snd Hrc.out
        have Htx : Hid (wtext (bs, bad) S = (bs', bad')) := Hwn.out
        rcases Hp.out with ⟨hb, rfl, rfl⟩ | ⟨rfl, rfl, rfl, hcat⟩ | ⟨rfl, hb, rfl, rfl⟩
        · skip
          have hb1 : (bad' == 0) = false := by simpa using hb
          have hb2 : (bad' != 0) = true := by simpa using hb
          go_wp2_with (first | (go_at_call 11; refine (Ref.text_any _ S (by unfold maxLen; omega)).mono ?_; rw [Hrn1.out, Hrn2.out]; rintro e w1 ⟨rfl, k1⟩; have Hk1 : Hid (Keep _ W w1) := hKw.out.calm k1; have Hw1 := HW.out.keep k1 (fun h => h) (fun _ _ h => h); clear k1; obtain ⟨q0, q1, q2, q3⟩ := cells4 Hr.out Hk1.out hb0; simp only at q0 q1 q2 q3) | (go_at_call 12; refine (Oct.text_any _ W.heap.size _ _ S sv Hw1 (by omega) (by unfold maxLen; omega)).mono ?_; rw [Htx.out]; rintro e w2 ⟨rfl, sv', h2, k2⟩; have Hw2 : Hid _ := h2; have Hk2 : Hid _ := k2; have Hk3 : Hid _ := Hk1.out.aft k2 Hown.out; clear h2 k2) | (go_at_call 13; refine (Oct.raw_any _ W.heap.size _ _ S sv HW.out (by omega)).mono ?_; rw [Htx.out]; rintro e w2 ⟨rfl, sv', h2, k2⟩; have Hw2 : Hid _ := h2; have Hk2 : Hid _ := k2; have Hk3 : Hid _ := Hk1.out.aft k2 Hown.out; clear h2 k2) | (go_at_call 14; (first | refine (done_ok _ _ _ _ Hw2.out).mono ?_ | refine (done_err _ _ _ _ _ Hw2.out hb).mono ?_); rintro e w3 ⟨rfl, k3⟩; have Hk4 : Hid _ := k3; clear k3))
          go_roundw
          case rel =>
            refine ⟨k + 1, sv', by omega, rfl, ?_, ?_, Rel.next Hst.out Hwn.out Hw2.out Hk4.out Hk1.out Hk2.out Hown.out Hwl.out Hlen.out⟩
            · rw [Hst.out, Hwn.out]
            · rw [Hst.out, Hwn.out]
          case measure => simp [intOf]; omega
        · skip
          have hcat2 : (⟨bs.toArray⟩ : ByteArray) ++ r = ⟨bs'.toArray⟩ := by rw [hcat]; exact ByteArray.ext (by simp)
          have hsz : bs.length + r.size ≤ 140737488355328 := by
            have h1 := Hwl.out
            rw [Hwn.out, hcat] at h1
            simp only [List.length_append, Array.length_toList] at h1
            change _ + r.size ≤ _ at h1
            omega
          have Hcat : Hid _ := hcat
          clear hcat
          go_wp2_with (first | (go_at_call 11; refine (Ref.text_any _ S (by unfold maxLen; omega)).mono ?_; rw [Hrn1.out, Hrn2.out]; rintro e w1 ⟨rfl, k1⟩; have Hk1 : Hid (Keep _ W w1) := hKw.out.calm k1; have Hw1 := HW.out.keep k1 (fun h => h) (fun _ _ h => h); clear k1; obtain ⟨q0, q1, q2, q3⟩ := cells4 Hr.out Hk1.out hb0; simp only at q0 q1 q2 q3) | (go_at_call 12; refine (Oct.text_any _ W.heap.size _ _ S sv Hw1 (by omega) (by unfold maxLen; omega)).mono ?_; rw [Htx.out]; rintro e w2 ⟨rfl, sv', h2, k2⟩; have Hw2 : Hid _ := h2; have Hk2 : Hid _ := k2; have Hk3 : Hid _ := Hk1.out.aft k2 Hown.out; clear h2 k2) | (go_at_call 13; refine (Oct.raw_any _ W.heap.size _ _ S sv HW.out (by omega)).mono ?_; rw [Htx.out]; rintro e w2 ⟨rfl, sv', h2, k2⟩; have Hw2 : Hid _ := h2; have Hk2 : Hid _ := k2; have Hk3 : Hid _ := Hk1.out.aft k2 Hown.out; clear h2 k2) | (go_at_call 14; (first | refine (done_ok _ _ _ _ Hw2.out).mono ?_ | refine (done_err _ _ _ _ _ Hw2.out hb).mono ?_); rintro e w3 ⟨rfl, k3⟩; have Hk4 : Hid _ := k3; clear k3))
          go_roundw
          case rel =>
            refine ⟨k + 1, sv', by omega, rfl, ?_, ?_, Rel.next Hst.out Hwn.out Hw2.out Hk4.out Hk1.out Hk2.out Hown.out Hwl.out Hlen.out⟩
            · rw [Hst.out, Hwn.out]
            · rw [Hst.out, Hwn.out]
          case measure => simp [intOf]; omega
        · skip
          have hb1 : (bad' == 0) = false := by simpa using hb
          have hb2 : (bad' != 0) = true := by simpa using hb
          go_wp2_with (first | (go_at_call 11; refine (Ref.text_any _ S (by unfold maxLen; omega)).mono ?_; rw [Hrn1.out, Hrn2.out]; rintro e w1 ⟨rfl, k1⟩; have Hk1 : Hid (Keep _ W w1) := hKw.out.calm k1; have Hw1 := HW.out.keep k1 (fun h => h) (fun _ _ h => h); clear k1; obtain ⟨q0, q1, q2, q3⟩ := cells4 Hr.out Hk1.out hb0; simp only at q0 q1 q2 q3) | (go_at_call 12; refine (Oct.text_any _ W.heap.size _ _ S sv Hw1 (by omega) (by unfold maxLen; omega)).mono ?_; rw [Htx.out]; rintro e w2 ⟨rfl, sv', h2, k2⟩; have Hw2 : Hid _ := h2; have Hk2 : Hid _ := k2; have Hk3 : Hid _ := Hk1.out.aft k2 Hown.out; clear h2 k2) | (go_at_call 13; refine (Oct.raw_any _ W.heap.size _ _ S sv HW.out (by omega)).mono ?_; rw [Htx.out]; rintro e w2 ⟨rfl, sv', h2, k2⟩; have Hw2 : Hid _ := h2; have Hk2 : Hid _ := k2; have Hk3 : Hid _ := Hk1.out.aft k2 Hown.out; clear h2 k2) | (go_at_call 14; (first | refine (done_ok _ _ _ _ Hw2.out).mono ?_ | refine (done_err _ _ _ _ _ Hw2.out hb).mono ?_); rintro e w3 ⟨rfl, k3⟩; have Hk4 : Hid _ := k3; clear k3))
          go_roundw
          case rel =>
            refine ⟨k + 1, sv', by omega, rfl, ?_, ?_, Rel.next Hst.out Hwn.out Hw2.out Hk4.out Hk1.out Hk2.out Hown.out Hwl.out Hlen.out⟩
            · rw [Hst.out, Hwn.out]
            · rw [Hst.out, Hwn.out]
          case measure => simp [intOf]; omega
      · have hK0 : (K == 0) = false := by simpa using hK
        have hK2 : (K == 1) = false := by simpa using hK1
        have Htx : Hid (wraw (bs, bad) S = (bs', bad')) := by have h := Hwn.out; unfold wact at h; rwa [if_neg hK, if_neg hK1] at h
        have hre : Hid (S = r ∧ 0 = re) := by have h := Hrc.out; unfold ract at h; rw [if_neg hK, if_neg hK1] at h; exact ⟨congrArg Prod.fst h, congrArg Prod.snd h⟩
        obtain ⟨rfl, rfl⟩ := hre.out
        have Hk1 : Hid (Keep _ W wr) := hKw
        rcases Hp.out with ⟨hb, rfl, rfl⟩ | ⟨rfl, _, rfl, hcat⟩ | ⟨_, hb, _, _⟩
        · skip
          have hb1 : (bad' == 0) = false := by simpa using hb
          have hb2 : (bad' != 0) = true := by simpa using hb
          go_wp2_with (first | (go_at_call 11; refine (Ref.text_any _ S (by unfold maxLen; omega)).mono ?_; rw [Hrn1.out, Hrn2.out]; rintro e w1 ⟨rfl, k1⟩; have Hk1 : Hid (Keep _ W w1) := hKw.out.calm k1; have Hw1 := HW.out.keep k1 (fun h => h) (fun _ _ h => h); clear k1; obtain ⟨q0, q1, q2, q3⟩ := cells4 Hr.out Hk1.out hb0; simp only at q0 q1 q2 q3) | (go_at_call 12; refine (Oct.text_any _ W.heap.size _ _ S sv Hw1 (by omega) (by unfold maxLen; omega)).mono ?_; rw [Htx.out]; rintro e w2 ⟨rfl, sv', h2, k2⟩; have Hw2 : Hid _ := h2; have Hk2 : Hid _ := k2; have Hk3 : Hid _ := Hk1.out.aft k2 Hown.out; clear h2 k2) | (go_at_call 13; refine (Oct.raw_any _ W.heap.size _ _ S sv HW.out (by omega)).mono ?_; rw [Htx.out]; rintro e w2 ⟨rfl, sv', h2, k2⟩; have Hw2 : Hid _ := h2; have Hk2 : Hid _ := k2; have Hk3 : Hid _ := Hk1.out.aft k2 Hown.out; clear h2 k2) | (go_at_call 14; (first | refine (done_ok _ _ _ _ Hw2.out).mono ?_ | refine (done_err _ _ _ _ _ Hw2.out hb).mono ?_); rintro e w3 ⟨rfl, k3⟩; have Hk4 : Hid _ := k3; clear k3))
          go_roundw
          case rel =>
            refine ⟨k + 1, sv', by omega, rfl, ?_, ?_, Rel.next Hst.out Hwn.out Hw2.out Hk4.out Hk1.out Hk2.out Hown.out Hwl.out Hlen.out⟩
            · rw [Hst.out, Hwn.out]
            · rw [Hst.out, Hwn.out]
          case measure => simp [intOf]; omega
        · skip
          have hcat2 : (⟨bs.toArray⟩ : ByteArray) ++ S = ⟨bs'.toArray⟩ := by rw [hcat]; exact ByteArray.ext (by simp)
          have hsz : bs.length + S.size ≤ 140737488355328 := by
            have h1 := Hwl.out
            rw [Hwn.out, hcat] at h1
            simp only [List.length_append, Array.length_toList] at h1
            change _ + S.size ≤ _ at h1
            omega
          have Hcat : Hid _ := hcat
          clear hcat
          go_wp2_with (first | (go_at_call 11; refine (Ref.text_any _ S (by unfold maxLen; omega)).mono ?_; rw [Hrn1.out, Hrn2.out]; rintro e w1 ⟨rfl, k1⟩; have Hk1 : Hid (Keep _ W w1) := hKw.out.calm k1; have Hw1 := HW.out.keep k1 (fun h => h) (fun _ _ h => h); clear k1; obtain ⟨q0, q1, q2, q3⟩ := cells4 Hr.out Hk1.out hb0; simp only at q0 q1 q2 q3) | (go_at_call 12; refine (Oct.text_any _ W.heap.size _ _ S sv Hw1 (by omega) (by unfold maxLen; omega)).mono ?_; rw [Htx.out]; rintro e w2 ⟨rfl, sv', h2, k2⟩; have Hw2 : Hid _ := h2; have Hk2 : Hid _ := k2; have Hk3 : Hid _ := Hk1.out.aft k2 Hown.out; clear h2 k2) | (go_at_call 13; refine (Oct.raw_any _ W.heap.size _ _ S sv HW.out (by omega)).mono ?_; rw [Htx.out]; rintro e w2 ⟨rfl, sv', h2, k2⟩; have Hw2 : Hid _ := h2; have Hk2 : Hid _ := k2; have Hk3 : Hid _ := Hk1.out.aft k2 Hown.out; clear h2 k2) | (go_at_call 14; (first | refine (done_ok _ _ _ _ Hw2.out).mono ?_ | refine (done_err _ _ _ _ _ Hw2.out hb).mono ?_); rintro e w3 ⟨rfl, k3⟩; have Hk4 : Hid _ := k3; clear k3))
          go_roundw
          case rel =>
            refine ⟨k + 1, sv', by omega, rfl, ?_, ?_, Rel.next Hst.out Hwn.out Hw2.out Hk4.out Hk1.out Hk2.out Hown.out Hwl.out Hlen.out⟩
            · rw [Hst.out, Hwn.out]
            · rw [Hst.out, Hwn.out]
          case measure => simp [intOf]; omega
        · exact absurd rfl hb
    · have HR : Hid _ := hrel
      clear hrel
      generalize (st els k).1.toArray = z1
      generalize (st els k).2 = z2
      by_cases hlt2 : k < len
      · obtain rfl : k = 60 := by omega
        go_wp2_with (first | (go_at_call 15; refine (Law.awake_true _).mono ?_; rintro e w2 ⟨rfl, k2⟩; have K2 : Hid _ := k2; clear k2))
        go_ret
        exact ⟨rfl, Keep.below (S := fun y => W.heap.size ≤ y) (HR.out.keep.calm K2.out) (Nat.le_refl _) (fun _ h => h)⟩
      · obtain rfl : k = len := by omega
        go_wp2_with (first | (go_at_call 15; refine (Law.awake_true _).mono ?_; rintro e w2 ⟨rfl, k2⟩; have K2 : Hid _ := k2; clear k2))
        go_ret
        exact ⟨rfl, Keep.below (S := fun y => W.heap.size ≤ y) (HR.out.keep.calm K2.out) (Nat.le_refl _) (fun _ h => h)⟩
end OctWr
end Go.Proofs.Ytbeiaobdapapjaa
