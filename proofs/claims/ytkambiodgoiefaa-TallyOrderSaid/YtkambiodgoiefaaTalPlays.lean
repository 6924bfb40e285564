/-
  'petrellaw21.TallyPlays': whatever is counted, the Tally tells the document's number. For every input.
-/
import Derived.Test.YtkambiodgoiefaaTal5
import Derived.Test.YtkambiodgoiefaaOpnS
import Derived.Lib.Strings
namespace Go.Proofs.Ytkambiodgoiefaa
open Go.RowKit
namespace TalPlays
open Oct Tal Go.ChangeShapes Go.WideShapes Go.ChangeAt
open Go.ChangeMaps (open_string shut_string)

def lay (x : Int) : List Value := [.int .i64 x]
def fact (_ : World) (x : Int) : Prop := (Lit.int .i64 x).wf = true
theorem rdl : Opn.Rd Try.prog 22 1 (fun x : Opn.Sl Int => [x.val]) (Opn.SlAt 1 lay fact) (fun x => (x.els.map fun _ => 1).sum + 1) :=
  Opn.rd_slice Try.underlying22 (by kernel_rfl) (by omega) (Opn.rd_int (P := Try.prog) (T := 3) Try.underlying3 (by kernel_rfl))

theorem cell1 {W w : World} {b0 o : Nat} {x : Int} (hr : W.rangeAt b0 o (lay x)) (hk : Keep (fun y => W.heap.size ≤ y) W w) (hb : b0 < W.heap.size) :
    w.cell? ⟨b0, o, none⟩ = some (.int .i64 x) := by
  have hn : ¬ W.heap.size ≤ b0 := by omega
  exact (hk.cell hb hn).trans (hr 0 _ rfl)
/-- The Tally that the law holds, and the frame. -/
structure TS (W w : World) (N : Int) : Prop where
  t : IsT w W.heap.size N
  keep : Keep (fun y => W.heap.size ≤ y) W w
section
variable {W w : World} {N : Int}
theorem TS.calm (h : TS W w N) {w' : World} (k : Keep (fun _ => False) w w') : TS W w' N := ⟨h.t.keep k (fun h => h), h.keep.trans' k (fun _ _ h => h) (fun _ _ h => h.elim)⟩
theorem inc_ts (h : TS W w N) (k : Int) (hk : k < 2147483648 ∧ -2147483648 ≤ k) (hn : -9000000000000000000 ≤ N ∧ N ≤ 9000000000000000000) :
    Calls Try.prog 8 #[.pointer (some ⟨W.heap.size, 0, none⟩), .int .i64 k] w fun e w' => e = .returned (.int .i64 0) ∧ TS W w' (N + k) := by
  refine (inc_t w _ N k h.t hk hn).mono ?_
  rintro e w' ⟨rfl, h1, h2⟩
  exact ⟨rfl, h1, h.keep.trans' h2 (fun _ _ h => h) (fun y _ (e : y = _) => by omega)⟩
theorem inc_bad_ts (h : TS W w N) (k : Int) (hk : ¬ (k < 2147483648 ∧ -2147483648 ≤ k)) :
    Calls Try.prog 8 #[.pointer (some ⟨W.heap.size, 0, none⟩), .int .i64 k] w fun e w' => e = .returned (.int .i64 5) ∧ TS W w' N := by
  refine (inc_bad w _ N k h.t hk).mono ?_
  rintro e w' ⟨rfl, rfl⟩
  exact ⟨rfl, h⟩
theorem n_ts (h : TS W w N) : Calls Try.prog 10 #[.pointer (some ⟨W.heap.size, 0, none⟩)] w fun e w' => e = .returned (.int .i64 N) ∧ TS W w' N := by
  refine (n_t w _ N h.t).mono ?_
  rintro e w' ⟨rfl, rfl⟩
  exact ⟨rfl, h⟩
theorem put_ts (h : TS W w N) : Calls Try.prog 11 #[.pointer (some ⟨W.heap.size, 0, none⟩)] w fun e w' => e = .returned (.string (pt N)) ∧ TS W w' N := by
  refine (put_n w _ N h.t).mono ?_
  rintro e w' ⟨rfl, k⟩
  exact ⟨rfl, h.calm k⟩
theorem rput_ts (h : TS W w N) (M : Int) : Calls Try.prog 12 #[.int .i64 M] w fun e w' => e = .returned (.string (pt M)) ∧ TS W w' N := by
  refine (rput_n w M).mono ?_
  rintro e w' ⟨rfl, k⟩
  exact ⟨rfl, h.calm k⟩
theorem rmay_ts (h : TS W w N) (k : Int) (b : Bool) (hb : may k = b) : Calls Try.prog 9 #[.int .i64 k] w fun e w' => e = .returned (.bool b) ∧ TS W w' N := by
  refine (rmay w k).mono ?_
  rintro e w' ⟨rfl, rfl⟩
  exact ⟨by rw [hb], h⟩
theorem awake_ts (h : TS W w N) : Calls Try.prog 14 #[] w fun e w' => e = .returned (.bool true) ∧ TS W w' N := by
  refine (awake_true w).mono ?_
  rintro e w' ⟨rfl, k⟩
  exact ⟨rfl, h.calm k⟩
end
/-- A second Tally. -/
structure TU (W w : World) (N : Int) (b : Nat) (M : Int) : Prop where
  s : TS W w N
  u : IsT w b M
  lt : W.heap.size < b
section
variable {W w : World} {N M : Int} {b : Nat}
theorem TU.calm (h : TU W w N b M) {w' : World} (k : Keep (fun _ => False) w w') : TU W w' N b M := ⟨h.s.calm k, h.u.keep k (fun h => h), h.lt⟩
theorem load_tu (h : TS W w N) (h1 : -9223372036854775808 ≤ M) (h2 : M < 9223372036854775808) :
    Calls Try.prog 13 #[.string (pt M)] w fun e w' => ∃ b, e = .returned (.tuple #[.pointer (some ⟨b, 0, none⟩), .int .i64 0]) ∧ TU W w' N b M := by
  refine (load_pt w M h1 h2).mono ?_
  rintro e w' ⟨b, hb, rfl, hu, k⟩
  have := lt_of_block h.t.blk
  exact ⟨b, rfl, h.calm k, hu, by omega⟩
theorem uinc (h : TU W w N b M) (k : Int) (hk : k < 2147483648 ∧ -2147483648 ≤ k) (hn : -9000000000000000000 ≤ M ∧ M ≤ 9000000000000000000) :
    Calls Try.prog 8 #[.pointer (some ⟨b, 0, none⟩), .int .i64 k] w fun e w' => e = .returned (.int .i64 0) ∧ TU W w' N b (M + k) := by
  refine (inc_t w _ M k h.u hk hn).mono ?_
  rintro e w' ⟨rfl, h1, h2⟩
  have := h.lt
  exact ⟨rfl, ⟨h.s.t.keep h2 (fun (e : _ = b) => by omega), h.s.keep.trans' h2 (fun _ _ h => h) (fun y _ (e : y = _) => by omega)⟩, h1, h.lt⟩
theorem uinc_bad (h : TU W w N b M) (k : Int) (hk : ¬ (k < 2147483648 ∧ -2147483648 ≤ k)) :
    Calls Try.prog 8 #[.pointer (some ⟨b, 0, none⟩), .int .i64 k] w fun e w' => e = .returned (.int .i64 5) ∧ TU W w' N b M := by
  refine (inc_bad w _ M k h.u hk).mono ?_
  rintro e w' ⟨rfl, rfl⟩
  exact ⟨rfl, h⟩
theorem un (h : TU W w N b M) : Calls Try.prog 10 #[.pointer (some ⟨b, 0, none⟩)] w fun e w' => e = .returned (.int .i64 M) ∧ TU W w' N b M := by
  refine (n_t w _ M h.u).mono ?_
  rintro e w' ⟨rfl, rfl⟩
  exact ⟨rfl, h⟩
theorem uput (h : TU W w N b M) : Calls Try.prog 11 #[.pointer (some ⟨b, 0, none⟩)] w fun e w' => e = .returned (.string (pt M)) ∧ TU W w' N b M := by
  refine (put_n w _ M h.u).mono ?_
  rintro e w' ⟨rfl, k⟩
  exact ⟨rfl, h.calm k⟩
theorem tn_tu (h : TU W w N b M) : Calls Try.prog 10 #[.pointer (some ⟨W.heap.size, 0, none⟩)] w fun e w' => e = .returned (.int .i64 N) ∧ TU W w' N b M := by
  refine (n_t w _ N h.s.t).mono ?_
  rintro e w' ⟨rfl, rfl⟩
  exact ⟨rfl, h⟩
theorem tput_tu (h : TU W w N b M) : Calls Try.prog 11 #[.pointer (some ⟨W.heap.size, 0, none⟩)] w fun e w' => e = .returned (.string (pt N)) ∧ TU W w' N b M := by
  refine (put_n w _ N h.s.t).mono ?_
  rintro e w' ⟨rfl, k⟩
  exact ⟨rfl, h.calm k⟩
theorem awake_tu (h : TU W w N b M) : Calls Try.prog 14 #[] w fun e w' => e = .returned (.bool true) ∧ TU W w' N b M := by
  refine (awake_true w).mono ?_
  rintro e w' ⟨rfl, k⟩
  exact ⟨rfl, h.calm k⟩
end

set_option maxHeartbeats 4000000 in
set_option maxRecDepth 100000 in
theorem go (b0 off len cap : Nat) (els : List Int) (W : World) (hels : els.length = len) (hb0 : len = 0 ∨ b0 < W.heap.size) (hlm : len ≤ maxLen) (ad : Option Addr) (had : len = 0 ∨ ad = some ⟨b0, off, none⟩)
    (hat : ∀ i x, els[i]? = some x → W.rangeAt b0 (off + i * 1) (lay x) ∧ fact W x) :
    Calls Try.prog 3 #[.slice ad len cap] W fun e W' => e = .returned (.bool true) ∧ Below W.heap.size W W' := by
  unfold maxLen at hlm
  go_enter Try.func3, Try.ntmps3
  go_wp2_with (first | (go_at_call 7; refine (new_t _).mono ?_; rintro e w1 ⟨rfl, h1, k1⟩; have H1 : Hid (TS W w1 0) := ⟨h1, k1.mono (fun _ _ h => h.elim)⟩; clear h1 k1))
  go_loopw [4, 5] (fun n i wr => ∃ (k : Nat) (N : Int), (k ≤ len ∧ k ≤ 100) ∧ i = .int .i64 k ∧ n = .int .i64 N ∧ TS W wr N ∧ -2147483648 * (k : Int) ≤ N ∧ N ≤ 2147483648 * k) (fun _ i _ => len - (intOf i).toNat)
  case atStart => exact ⟨0, 0, by omega, rfl, rfl, H1.out, by omega, by omega⟩
  case round =>
    obtain ⟨k, N, hk, rfl, rfl, hrel, hN1, hN2⟩ := hrel
    have HT : Hid _ := hrel
    clear hrel
    by_cases hlt : k < len ∧ k < 100
    · obtain ⟨hlt, h40⟩ := hlt
      obtain ⟨x, hx⟩ : ∃ x, els[k]? = some x := ⟨_, List.getElem?_eq_getElem (by omega)⟩
      have hr := (hat k _ hx).1
      obtain rfl : ad = some ⟨b0, off, none⟩ := by rcases had with e | e; omega; exact e
      have hb1 : b0 < W.heap.size := by rcases hb0 with e | e; omega; exact e
      rw [Nat.mul_one] at hr
      have Hr : Hid _ := hr
      have g0 := cell1 Hr.out HT.out.keep hb1
      clear hx hat had hb0 hr
      by_cases hm : x < 2147483648 ∧ -2147483648 ≤ x
      · have hmay : Hid (may x = true) := (decide_eq_true hm : may x = true)
        go_wp2_with (first | (go_at_call 8; refine (inc_ts HT.out _ hm (by omega)).mono ?_; rintro e w2 ⟨rfl, h1⟩; have HT : Hid _ := h1; clear h1; have g0 := cell1 Hr.out HT.out.keep hb1) | (go_at_call 9; refine (rmay_ts HT.out _ _ hmay.out).mono ?_; rintro e w2 ⟨rfl, h1⟩; have HT : Hid _ := h1; clear h1; have g0 := cell1 Hr.out HT.out.keep hb1) | (go_at_call 10; refine (n_ts HT.out).mono ?_; rintro e w2 ⟨rfl, h1⟩; have HT : Hid _ := h1; clear h1; have g0 := cell1 Hr.out HT.out.keep hb1) | (go_at_call 11; refine (put_ts HT.out).mono ?_; rintro e w2 ⟨rfl, h1⟩; have HT : Hid _ := h1; clear h1; have g0 := cell1 Hr.out HT.out.keep hb1) | (go_at_call 12; refine (rput_ts HT.out _).mono ?_; rintro e w2 ⟨rfl, h1⟩; have HT : Hid _ := h1; clear h1; have g0 := cell1 Hr.out HT.out.keep hb1))
        go_roundw
        case rel => exact ⟨k + 1, _, by omega, rfl, rfl, HT.out, by omega, by omega⟩
        case measure => simp [intOf]; omega
      · have hmay : Hid (may x = false) := (decide_eq_false hm : may x = false)
        have Hm : Hid _ := hm
        clear hm
        go_wp2_with (first | (go_at_call 8; refine (inc_bad_ts HT.out _ Hm.out).mono ?_; rintro e w2 ⟨rfl, h1⟩; have HT : Hid _ := h1; clear h1; have g0 := cell1 Hr.out HT.out.keep hb1) | (go_at_call 9; refine (rmay_ts HT.out _ _ hmay.out).mono ?_; rintro e w2 ⟨rfl, h1⟩; have HT : Hid _ := h1; clear h1; have g0 := cell1 Hr.out HT.out.keep hb1) | (go_at_call 10; refine (n_ts HT.out).mono ?_; rintro e w2 ⟨rfl, h1⟩; have HT : Hid _ := h1; clear h1; have g0 := cell1 Hr.out HT.out.keep hb1) | (go_at_call 11; refine (put_ts HT.out).mono ?_; rintro e w2 ⟨rfl, h1⟩; have HT : Hid _ := h1; clear h1; have g0 := cell1 Hr.out HT.out.keep hb1) | (go_at_call 12; refine (rput_ts HT.out _).mono ?_; rintro e w2 ⟨rfl, h1⟩; have HT : Hid _ := h1; clear h1; have g0 := cell1 Hr.out HT.out.keep hb1))
        go_roundw
        case rel => exact ⟨k + 1, N, by omega, rfl, rfl, HT.out, by omega, by omega⟩
        case measure => simp [intOf]; omega
    · by_cases hlt2 : k < len
      · obtain rfl : k = 100 := by omega
        go_wp2_with (first | (go_at_call 11; first | (refine (put_ts HT.out).mono ?_; rintro e w2 ⟨rfl, h1⟩; have HT : Hid _ := h1; clear h1)) | (go_at_call 13; refine (load_tu HT.out (by omega) (by omega)).mono ?_; rintro e w2 ⟨b, rfl, h1⟩; have HT : Hid _ := h1; clear h1) | (go_at_call 10; first | (refine (un HT.out).mono ?_; rintro e w2 ⟨rfl, h1⟩; have HT : Hid _ := h1; clear h1) | (refine (tn_tu HT.out).mono ?_; rintro e w2 ⟨rfl, h1⟩; have HT : Hid _ := h1; clear h1)) | (go_at_call 8; refine (uinc HT.out _ (by decide) (by omega)).mono ?_; rintro e w2 ⟨rfl, h1⟩; have HT : Hid _ := h1; clear h1) | (go_at_call 14; refine (awake_tu HT.out).mono ?_; rintro e w2 ⟨rfl, h1⟩; have HT : Hid _ := h1; clear h1))
        go_ret
        exact ⟨rfl, HT.out.s.keep.below (Nat.le_refl _) (fun _ h => h)⟩
      · obtain rfl : k = len := by omega
        go_wp2_with (first | (go_at_call 11; first | (refine (put_ts HT.out).mono ?_; rintro e w2 ⟨rfl, h1⟩; have HT : Hid _ := h1; clear h1)) | (go_at_call 13; refine (load_tu HT.out (by omega) (by omega)).mono ?_; rintro e w2 ⟨b, rfl, h1⟩; have HT : Hid _ := h1; clear h1) | (go_at_call 10; first | (refine (un HT.out).mono ?_; rintro e w2 ⟨rfl, h1⟩; have HT : Hid _ := h1; clear h1) | (refine (tn_tu HT.out).mono ?_; rintro e w2 ⟨rfl, h1⟩; have HT : Hid _ := h1; clear h1)) | (go_at_call 8; refine (uinc HT.out _ (by decide) (by omega)).mono ?_; rintro e w2 ⟨rfl, h1⟩; have HT : Hid _ := h1; clear h1) | (go_at_call 14; refine (awake_tu HT.out).mono ?_; rintro e w2 ⟨rfl, h1⟩; have HT : Hid _ := h1; clear h1))
        go_ret
        exact ⟨rfl, HT.out.s.keep.below (Nat.le_refl _) (fun _ h => h)⟩

theorem own : ownKnob Try.prog.godebug = none := by kernel_rfl
theorem laidOut : laidOutB Try.prog = true := by kernel_rfl
theorem contract (H : Type) (enc : TypeId × Value → H) (W : World) (base : Nat) (args : Array Value) (ds gs : List (DataW H)) (before : List MemPlace)
    (hval : ∀ (j : Nat) t v, Try.f3.params[j]? = some t → args[j]? = some v → Value.okWide Try.prog W .any base t v)
    (hW : DataW.Whole enc Try.prog Try.f3.params.toList Rows.tallyPlaysSpec.vars false W args.toList ds gs before) :
    Calls Try.prog 3 args W fun e W' => ∃ v, e = .returned v ∧ Rows.tallyPlaysSpec.post enc Try.prog Try.f3 false true false false W args v W' := by
  have hW' := hW
  obtain ⟨p, q, hA0, hV, rfl, hfz, hnd⟩ := hW
  have hA : DataW.TrodAll enc Try.prog W 0 (fun _ => true) true Try.f3.params.toList args.toList ds p := hA0
  rw [Try.params3] at hA hval
  obtain ⟨rfl, rfl⟩ := trodVars_none hV
  obtain ⟨v0, vs0, d0, ds0, p0, q0, hargs, rfl, rfl, h0, r0⟩ := trodAll_cons hA
  obtain ⟨rfl, rfl, rfl⟩ := trodAll_nil r0
  obtain rfl : args = #[v0] := by cases args; simp_all
  obtain ⟨⟨a, len, cap, els⟩, rfl, hat, hbk⟩ := Opn.open_sl Try.underlying22 rdl (hval 0 _ v0 rfl rfl) h0
  obtain ⟨e1, e2, e3, e4⟩ := hat
  simp only at e1 e2 e3 e4 hbk
  have key : Calls Try.prog 3 #[.slice a len cap] W fun e W' => e = .returned (.bool true) ∧ Below W.heap.size W W' := by
    rcases e4 with e4 | ⟨b, off, rfl, hb, hel⟩
    · subst e4
      obtain rfl : els = [] := List.length_eq_zero_iff.1 e1
      exact go 0 0 0 cap [] W rfl (.inl rfl) (Nat.zero_le _) a (.inl rfl) (fun i x h => by simp at h)
    · exact go b off len cap els W e1 (.inr hb) (Nat.le_trans e2 e3) _ (.inr rfl) hel
  refine key.mono fun e W' ⟨he, bel⟩ => ?_
  subst he
  exact ⟨_, rfl, Opn.law_post laidOut (by kernel_rfl) rfl Try.underlying4 rfl rfl hW' bel⟩
set_option maxRecDepth 100000 in
theorem lifted (os : Os) (started : os.Started) (H : Type) (enc : TypeId × Value → H) :
    ReturnsInHanded {} Try.checked os 3 .any (Rows.tallyPlaysSpec.pre6 enc Try.prog Try.f3 Rows.tallyPlaysRow.domain false) (Rows.tallyPlaysSpec.post enc Try.prog Try.f3 false true false false) := by
  refine returnsInHanded_of_change (C := Try.checked) own started (by kernel_rfl) Try.func3
    (ChangeSpec.witness6 (enc := enc) (C := Try.checked) false ⟨#[], #[.slice none 0 0], []⟩ 8 (by kernel_rfl) (by kernel_rfl) (by kernel_rfl) (by kernel_rfl)) ?_
  intro W base args ds gs before hval0 hW hcnd _
  exact contract H enc W base args ds gs before hval0 hW
theorem over : Rows.tallyPlaysRow.holds Try.pinned (OpenSpec.ofChange Rows.tallyPlaysSpec) :=
  OpenClaim.holds_of_wide 3 Try.f3 rfl rfl rfl rfl rfl rfl rfl ⟨rfl, rfl, rfl, rfl, rfl⟩ rfl rfl rfl rfl rfl (by kernel_rfl) Try.func3 (by kernel_rfl)
    (of_decide_eq_true (by kernel_rfl)) (by unfold Func.isWrapper; first | (rw [if_pos (by decide +kernel)]; kernel_rfl) | (rw [if_neg (by decide +kernel)]; exact ⟨rfl, rfl⟩))
    (fun os started H enc _ => lifted os started H enc)
theorem proved : Rows.TallyPlaysSaid := over
end TalPlays
end Go.Proofs.Ytkambiodgoiefaa
