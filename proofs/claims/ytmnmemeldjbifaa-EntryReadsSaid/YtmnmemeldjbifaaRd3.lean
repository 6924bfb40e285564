import Derived.Test.YtmnmemeldjbifaaRd2
set_option linter.unusedVariables false
set_option linter.unusedSimpArgs false
namespace Go.Proofs.Ytmnmemeldjbifaa
open Go.RowKit
namespace Oct

def rnum (s : ByteArray) (at_ : Nat) (bad k : Int) : Nat × Nat × Int :=
  if bad ≠ 0 then (0, at_, bad) else if nbits k = 0 then (0, at_, 1) else (natOf (rraw s at_ 0 k).1.data.toList, (rraw s at_ 0 k).2.1, (rraw s at_ 0 k).2.2)

theorem or_i64 (a b : Nat) (ha : a < 4611686018427387904) (hb : b < 4611686018427387904) : bits .or .i64 (a : Int) (b : Int) = ((a ||| b : Nat) : Int) := by
  have hx : a ||| b < 2 ^ 62 := Nat.or_lt_two_pow (by omega) (by omega)
  show IntKind.i64.wrap ((BitVec.ofInt 64 (a : Int) ||| BitVec.ofInt 64 (b : Int)).toNat : Int) = _
  rw [BitVec.toNat_or, ofInt_u64 a (by omega), ofInt_u64 b (by omega), IntKind.wrap_i64]
  omega
theorem shl_or (m c : Nat) (hm : m < 16777216) (hc : c < 256) : bits .or .i64 ((m : Int) * 256) (c : Int) = ((256 * m + c : Nat) : Int) := by
  have e : m <<< 8 + c = m <<< 8 ||| c := Nat.shiftLeft_add_eq_or_of_lt (by omega) m
  rw [Nat.shiftLeft_eq] at e
  rw [show ((m : Int) * 256) = ((m * 2 ^ 8 : Nat) : Int) from by simp, or_i64 _ _ (by omega) (by omega), ← e]
  congr 1; omega

set_option maxRecDepth 100000 in
theorem rnum_loop (w : World) (b : Nat) (s : ByteArray) (at_ : Nat) (k : Int) (h : IsR w b s at_ 0) (v : Int) (hv : nbits k = v) (hv0 : (v == 0) = false) (x : ByteArray) (hx : (rraw s at_ 0 k).1 = x) (hx4 : x.size ≤ 4) :
    Calls Try.prog 33 #[.pointer (some ⟨b, 0, none⟩), .int .i64 k] w fun e w' =>
    e = .returned (.int .i64 (natOf x.data.toList)) ∧ IsR w' b s (rraw s at_ 0 k).2.1 (rraw s at_ 0 k).2.2 ∧ Keep (fun k => k = b) w w' := by
  have HR : Hid (IsR w b s at_ 0) := h
  have Hv : Hid _ := hv
  have Hx : Hid _ := hx
  have hb : (0 : Int) = 0 := rfl
  clear h hv hx hb
  go_enter Try.func33, Try.ntmps33
  go_wp2_with (first | (go_at_call 67; refine (stuck_at _ b s at_ _ false HR.out (by first | rfl | simpa using hb)).mono ?_; rintro e w' ⟨rfl, rfl⟩) | (go_at_call 68; refine (bits_is _ v _ Hv.out).mono ?_; rintro e w' ⟨rfl, rfl⟩) | (go_at_call 69; refine (rraw_any _ b s at_ 0 k HR.out).mono ?_; rintro e w1 ⟨rfl, h1, h2⟩; rw [Hx.out]; have hcv := run_bytes_of_string w1 9 53 5 x Try.underlying9 Try.underlying53 Try.underlying5; have H1 : Hid _ := h1; have H2 : Hid _ := h2; clear h1 h2))
  have hcell : ∀ j (hj : j < x.data.size), ∀ cs t fr, cs = bytesRow x (grownCap w1 x.size 0 5) → (w1.alloc (.cells cs t fr)).cell? ⟨w1.heap.size, j, none⟩ = some (.int .u8 (x.data[j].toNat : Int)) := by
    intro j hj cs t fr hcs
    rw [cell_of (heap_alloc_new w1 _), hcs, bytesRow_at _ _ _ hj]
  generalize hg : grownCap w1 x.size 0 5 = cap at hcell
  clear hcv
  generalize hW : (w1.alloc (Obj.cells (bytesRow x cap) _ _)).drew = W
  have hcellW : ∀ j (hj : j < x.data.size), W.cell? ⟨w1.heap.size, j, none⟩ = some (.int .u8 (x.data[j].toNat : Int)) := by
    intro j hj; rw [← hW]; exact hcell j hj _ _ _ rfl
  have hkeep : Keep (fun _ => False) w1 W := by rw [← hW]; exact ((Keep.refl _ _).alloc _).drew
  have HK : Hid _ := hkeep
  have HC : Hid _ := hcellW
  clear hcell hcellW hkeep hW hg
  have hsz : x.data.size = x.size := rfl
  go_loop [5, 21] (fun n i => ∃ q : Nat, q ≤ x.size ∧ i = .int .i64 q ∧ n = .int .i64 (natOf (x.data.toList.take q))) (fun _ i => x.size - (intOf i).toNat)
  case atStart => exact ⟨0, Nat.zero_le _, rfl, rfl⟩
  case round =>
    obtain ⟨q, hq, rfl, rfl⟩ := hrel
    by_cases hlt : q < x.size
    · have hc := HC.out q hlt
      have hm := natOf_lt (x.data.toList.take q)
      have hm2 : natOf (x.data.toList.take q) < 16777216 := by
        refine Nat.lt_of_lt_of_le hm (Nat.le_trans (Nat.pow_le_pow_right (by omega) (show (x.data.toList.take q).length ≤ 3 by simp; omega)) (by decide))
      have hs : Hid (natOf (x.data.toList.take (q + 1)) = 256 * natOf (x.data.toList.take q) + x.data[q].toNat) := by
        have : x.data.toList.take (q + 1) = x.data.toList.take q ++ [x.data[q]] := by
          rw [List.take_succ_eq_append_getElem (by simpa using hlt)]; rfl
        rw [this]; exact natOf_snoc _ _
      have hcb : x.data[q].toNat < 256 := x.data[q].toNat_lt
      generalize natOf (x.data.toList.take q) = m at *
      generalize x.data[q].toNat = c at *
      clear hm
      go_wp2
      refine ⟨⟨q + 1, by omega, by go_num, ?_⟩, by simp [intOf]; omega⟩
      rw [hs.out, shl_or m c hm2 hcb]
    · obtain rfl : q = x.size := by omega
      go_wp2
      go_ret
      have e : x.data.toList.take x.size = x.data.toList := List.take_of_length_le (by simp)
      exact ⟨congrArg (fun l => Ending.returned (.int .i64 (natOf l))) e, H1.out.keep HK.out id, H2.out.trans' HK.out (fun _ _ h => h) (fun _ _ h => h.elim)⟩

theorem rraw_size (s : ByteArray) (at_ : Nat) (k : Int) (hk : nbits k ≠ 0) : (rraw s at_ 0 k).1.size ≤ 4 := by
  unfold rraw
  rw [if_neg (by simp)]
  split
  · exact Nat.zero_le _
  · split
    · exact Nat.zero_le _
    · rw [ByteArray.size_extract]
      unfold nbits at hk
      have : k = 4 ∨ k = 2 ∨ k = 1 := by
        by_cases h4 : k = 4
        · omega
        by_cases h2 : k = 2
        · omega
        by_cases h1 : k = 1
        · omega
        simp [h4, h2, h1] at hk
      omega

set_option maxRecDepth 100000 in
theorem rnum_any (w : World) (b : Nat) (s : ByteArray) (at_ : Nat) (bad k : Int) (h : IsR w b s at_ bad) :
    Calls Try.prog 33 #[.pointer (some ⟨b, 0, none⟩), .int .i64 k] w fun e w' =>
    e = .returned (.int .i64 (rnum s at_ bad k).1) ∧ IsR w' b s (rnum s at_ bad k).2.1 (rnum s at_ bad k).2.2 ∧ Keep (fun k => k = b) w w' := by
  by_cases hb : bad = 0
  case neg =>
    have e : rnum s at_ bad k = (0, at_, bad) := by simp [rnum, hb]
    rw [e]
    have HR : Hid (IsR w b s at_ bad) := h
    clear h e
    go_enter Try.func33, Try.ntmps33
    go_wp2_with (first | (go_at_call 67; refine (stuck_at _ b s at_ _ true HR.out (by first | rfl | simpa using hb)).mono ?_; rintro e w' ⟨rfl, rfl⟩))
    go_ret
    exact ⟨rfl, HR.out, Keep.refl _ _⟩
  subst hb
  by_cases hk : nbits k = 0
  · have e : rnum s at_ 0 k = (0, at_, 1) := by simp [rnum, hk]
    rw [e]
    have hc0 : w.cell? ⟨b, 0, none⟩ = some (.string s) := by rw [cell_of h.blk]; rfl
    have hc1 : w.cell? ⟨b, 1, none⟩ = some (.int .i64 at_) := by rw [cell_of h.blk]; rfl
    have hc2 : w.cell? ⟨b, 2, none⟩ = some (.int .i64 0) := by rw [cell_of h.blk]; rfl
    have hc3 : w.cell? ⟨b, 3, none⟩ = some (.bool true) := by rw [cell_of h.blk]; rfl
    have hf1 : w.frozen? ⟨b, 1, none⟩ = false := free_of h.blk
    have hf2 : w.frozen? ⟨b, 2, none⟩ = false := free_of h.blk
    have hbl : b < w.heap.size := lt_of_block h.blk
    have hat := h.le
    have hsz := h.small
    unfold maxLen at hsz
    have hb : (0 : Int) = 0 := rfl
    have HR : Hid (IsR w b s at_ 0) := h
    have Hk : Hid _ := hk
    clear h e hb hk
    go_enter Try.func33, Try.ntmps33
    go_wp2_with (first | (go_at_call 67; refine (stuck_at _ b s at_ _ false HR.out (by first | rfl | simpa using hb)).mono ?_; rintro e w' ⟨rfl, rfl⟩) | (go_at_call 68; refine (bits_is _ 0 _ Hk.out).mono ?_; rintro e w' ⟨rfl, rfl⟩))
    go_ret
    exact ⟨rfl, HR.out.setBad 1, (Keep.refl _ _).setCell _ _ (fun _ => rfl)⟩
  · have e : rnum s at_ 0 k = (natOf (rraw s at_ 0 k).1.data.toList, (rraw s at_ 0 k).2.1, (rraw s at_ 0 k).2.2) := by simp [rnum, hk]
    rw [e]
    exact rnum_loop w b s at_ k h _ rfl (by simpa using hk) _ rfl (rraw_size s at_ k hk)

/-- 'Text': what it answers, and leaves. -/
def rtext (s : ByteArray) (at_ : Nat) (bad most : Int) : ByteArray × Nat × Int :=
  let x := rnum s at_ bad 2
  if x.2.2 ≠ 0 then (ByteArray.empty, x.2.1, x.2.2) else if most < (x.1 : Int) then (ByteArray.empty, x.2.1, 3) else rraw s x.2.1 x.2.2 x.1

set_option maxRecDepth 100000 in
theorem rtext_any (w : World) (b : Nat) (s : ByteArray) (at_ : Nat) (bad most : Int) (h : IsR w b s at_ bad) :
    Calls Try.prog 37 #[.pointer (some ⟨b, 0, none⟩), .int .i64 most] w fun e w' =>
    e = .returned (.string (rtext s at_ bad most).1) ∧ IsR w' b s (rtext s at_ bad most).2.1 (rtext s at_ bad most).2.2 ∧ Keep (fun k => k = b) w w' := by
  have HR : Hid (IsR w b s at_ bad) := h
  clear h
  obtain ⟨x, hx⟩ : ∃ x, rnum s at_ bad 2 = x := ⟨_, rfl⟩
  obtain ⟨n, a2, bad2⟩ := x
  have Hx : Hid _ := hx
  have hr : rtext s at_ bad most = if bad2 ≠ 0 then (ByteArray.empty, a2, bad2) else if most < (n : Int) then (ByteArray.empty, a2, 3) else rraw s a2 bad2 n := by unfold rtext; rw [hx]
  have Hr : Hid _ := hr
  clear hx hr
  by_cases hb : bad2 = 0
  · subst hb
    by_cases hm : most < (n : Int)
    · go_enter Try.func37, Try.ntmps37
      go_wp2_with (first | (go_at_call 33; refine (rnum_any _ b s at_ bad 2 HR.out).mono ?_; rw [Hx.out]; rintro e w1 ⟨rfl, h1, h2⟩; have H1 : Hid _ := h1; have H2 : Hid _ := h2; have hf1 : w1.frozen? ⟨b, 2, none⟩ = false := free_of h1.blk; have hc1 : w1.cell? ⟨b, 2, none⟩ = some (.int .i64 0) := (by rw [cell_of h1.blk]; rfl); clear h1 h2) | (go_at_call 67; refine (stuck_at _ b s a2 0 false H1.out rfl).mono ?_; rintro e w' ⟨rfl, rfl⟩))
      go_ret
      rw [Hr.out, if_neg (by simp), if_pos hm]
      exact ⟨rfl, H1.out.setBad 3, H2.out.setCell _ _ (fun _ => rfl)⟩
    · go_enter Try.func37, Try.ntmps37
      go_wp2_with (first | (go_at_call 33; refine (rnum_any _ b s at_ bad 2 HR.out).mono ?_; rw [Hx.out]; rintro e w1 ⟨rfl, h1, h2⟩; have H1 : Hid _ := h1; have H2 : Hid _ := h2; clear h1 h2) | (go_at_call 67; refine (stuck_at _ b s a2 0 false H1.out rfl).mono ?_; rintro e w' ⟨rfl, rfl⟩) | (go_at_call 69; refine (rraw_any _ b s a2 0 n H1.out).mono ?_; rintro e w2 ⟨rfl, h3, h4⟩; have H3 : Hid _ := h3; have H4 : Hid _ := h4; clear h3 h4))
      go_ret
      rw [Hr.out, if_neg (by simp), if_neg (by omega)]
      exact ⟨rfl, H3.out, H2.out.trans H4.out⟩
  · have hb' : (bad2 != 0) = true := by simpa using hb
    have Hb : Hid _ := hb'
    have Hb0 : Hid _ := hb
    clear hb hb'
    go_enter Try.func37, Try.ntmps37
    go_wp2_with (first | (go_at_call 33; refine (rnum_any _ b s at_ bad 2 HR.out).mono ?_; rw [Hx.out]; rintro e w1 ⟨rfl, h1, h2⟩; have H1 : Hid _ := h1; have H2 : Hid _ := h2; clear h1 h2) | (go_at_call 67; refine (stuck_at _ b s a2 bad2 true H1.out Hb.out).mono ?_; rintro e w' ⟨rfl, rfl⟩))
    go_ret
    rw [Hr.out, if_pos Hb0.out]
    exact ⟨rfl, H1.out, H2.out⟩
end Oct
end Go.Proofs.Ytmnmemeldjbifaa
