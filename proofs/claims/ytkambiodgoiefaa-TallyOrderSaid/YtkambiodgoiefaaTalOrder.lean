/-
  'petrellaw21.TallyOrder': the order in which it is counted plays no part, a load between plays none. For every input.
-/
import Derived.Test.YtkambiodgoiefaaTalPlays
namespace Go.Proofs.Ytkambiodgoiefaa
open Go.RowKit
namespace TalOrder
open Oct Tal TalPlays Go.ChangeShapes Go.WideShapes Go.ChangeAt
open Go.ChangeMaps (open_string shut_string)

/-- What of a number is counted. -/
def g (x : Int) : Int := if x < 2147483648 ∧ -2147483648 ≤ x then x else 0
def sg (els : List Int) (k : Nat) : Int := ((els.take k).map g).sum
theorem sg_zero (els : List Int) : sg els 0 = 0 := rfl
theorem sg_succ (els : List Int) (k : Nat) (x : Int) (h : els[k]? = some x) : sg els (k + 1) = sg els k + g x := by
  unfold sg
  rw [List.take_add_one, h]
  simp
theorem g_le (x : Int) : -2147483648 ≤ g x ∧ g x ≤ 2147483648 := by unfold g; split <;> omega
theorem sg_le (els : List Int) : ∀ k : Nat, -2147483648 * (k : Int) ≤ sg els k ∧ sg els k ≤ 2147483648 * k
  | 0 => by simp [sg]
  | k + 1 => by
    have h := sg_le els k
    cases hx : els[k]? with
    | none =>
      have : sg els (k + 1) = sg els k := by unfold sg; rw [List.take_add_one, hx]; simp
      omega
    | some x => rw [sg_succ els k x hx]; have := g_le x; omega
section
variable {W w : World} {N M : Int} {b : Nat}
theorem tinc (h : TU W w N b M) (k : Int) (hk : k < 2147483648 ∧ -2147483648 ≤ k) (hn : -9000000000000000000 ≤ N ∧ N ≤ 9000000000000000000) :
    Calls Try.prog 8 #[.pointer (some ⟨W.heap.size, 0, none⟩), .int .i64 k] w fun e w' => e = .returned (.int .i64 0) ∧ TU W w' (N + k) b M := by
  refine (inc_t w _ N k h.s.t hk hn).mono ?_
  rintro e w' ⟨rfl, h1, h2⟩
  have := h.lt
  exact ⟨rfl, ⟨h1, h.s.keep.trans' h2 (fun _ _ h => h) (fun y _ (e : y = _) => by omega)⟩, h.u.keep h2 (fun (e : b = _) => by omega), h.lt⟩
theorem tinc_bad (h : TU W w N b M) (k : Int) (hk : ¬ (k < 2147483648 ∧ -2147483648 ≤ k)) :
    Calls Try.prog 8 #[.pointer (some ⟨W.heap.size, 0, none⟩), .int .i64 k] w fun e w' => e = .returned (.int .i64 5) ∧ TU W w' N b M := by
  refine (inc_bad w _ N k h.s.t hk).mono ?_
  rintro e w' ⟨rfl, rfl⟩
  exact ⟨rfl, h⟩
/-- 'Inc', whatever is counted. -/
theorem tinc_g (h : TU W w N b M) (k : Int) (hn : -9000000000000000000 ≤ N ∧ N ≤ 9000000000000000000) :
    Calls Try.prog 8 #[.pointer (some ⟨W.heap.size, 0, none⟩), .int .i64 k] w fun e w' => ∃ v, e = .returned (.int .i64 v) ∧ TU W w' (N + g k) b M := by
  by_cases hk : k < 2147483648 ∧ -2147483648 ≤ k
  · refine (tinc h k hk hn).mono ?_
    rintro e w' ⟨rfl, h1⟩
    exact ⟨_, rfl, by unfold g; rw [if_pos hk]; exact h1⟩
  · refine (tinc_bad h k hk).mono ?_
    rintro e w' ⟨rfl, h1⟩
    exact ⟨_, rfl, by unfold g; rw [if_neg hk, Int.add_zero]; exact h1⟩
theorem uinc_g (h : TU W w N b M) (k : Int) (hn : -9000000000000000000 ≤ M ∧ M ≤ 9000000000000000000) :
    Calls Try.prog 8 #[.pointer (some ⟨b, 0, none⟩), .int .i64 k] w fun e w' => ∃ v, e = .returned (.int .i64 v) ∧ TU W w' N b (M + g k) := by
  by_cases hk : k < 2147483648 ∧ -2147483648 ≤ k
  · refine (uinc h k hk hn).mono ?_
    rintro e w' ⟨rfl, h1⟩
    exact ⟨_, rfl, by unfold g; rw [if_pos hk]; exact h1⟩
  · refine (uinc_bad h k hk).mono ?_
    rintro e w' ⟨rfl, h1⟩
    exact ⟨_, rfl, by unfold g; rw [if_neg hk, Int.add_zero]; exact h1⟩
end
set_option maxHeartbeats 4000000 in
set_option maxRecDepth 100000 in
theorem go (T : Nat → Int) (els : List Int) (T0 : Hid (T 0 = 0)) (Ts : Hid (∀ k x, els[k]? = some x → T (k + 1) = T k + g x)) (Tl : Hid (∀ k : Nat, -2147483648 * (k : Int) ≤ T k ∧ T k ≤ 2147483648 * k)) (A : Int) (b0 off len cap : Nat) (W : World) (hA : 0 ≤ A ∧ A < 256) (hels : els.length = len) (hb0 : len = 0 ∨ b0 < W.heap.size) (hlm : len ≤ maxLen) (ad : Option Addr) (had : len = 0 ∨ ad = some ⟨b0, off, none⟩)
    (hat : ∀ i x, els[i]? = some x → W.rangeAt b0 (off + i * 1) (lay x) ∧ fact W x) :
    Calls Try.prog 5 #[.slice ad len cap, .int .u8 A] W fun e W' => e = .returned (.bool true) ∧ Below W.heap.size W W' := by
  unfold maxLen at hlm
  have Hat : Hid (∀ i x, els[i]? = some x → W.rangeAt b0 (off + i) (lay x)) := fun i x h => by have := (hat i x h).1; rwa [Nat.mul_one] at this
  clear hat
  go_enter Try.func5, Try.ntmps5
  go_wp2_with (first | (go_at_call 7; first | (refine (new_t _).mono ?_; rintro e w2 ⟨rfl, h2, k2⟩; have H2 : Hid (TU W w2 0 w1.heap.size 0) := ⟨H1.out.calm k2, h2, lt_of_block H1.out.t.blk⟩; clear h2 k2) | (refine (new_t _).mono ?_; rintro e w1 ⟨rfl, h1, k1⟩; have H1 : Hid (TS W w1 0) := ⟨h1, k1.mono (fun _ _ h => h.elim)⟩; clear h1 k1)))
  go_loopw [7] (fun i wr => ∃ k : Nat, (k ≤ len ∧ k ≤ 100) ∧ i = .int .i64 k ∧ TU W wr (T k) w1.heap.size 0) (fun i _ => len - (intOf i).toNat)
  case atStart => exact ⟨0, by omega, rfl, by rw [T0.out]; exact H2.out⟩
  case round =>
    obtain ⟨k, hk, rfl, hrel⟩ := hrel
    have HT : Hid _ := hrel
    clear hrel
    by_cases hlt : k < len ∧ k < 100
    · obtain ⟨hlt, h40⟩ := hlt
      obtain ⟨x, hx⟩ : ∃ x, els[k]? = some x := ⟨_, List.getElem?_eq_getElem (by omega)⟩
      obtain rfl : ad = some ⟨b0, off, none⟩ := by rcases had with e | e; omega; exact e
      have hb1 : b0 < W.heap.size := by rcases hb0 with e | e; omega; exact e
      have g0 := cell1 (Hat.out k x hx) HT.out.s.keep hb1
      have Hs : Hid _ := Ts.out k x hx
      have hle := Tl.out k
      have Hle : Hid _ := hle
      clear hx had hb0 hle
      go_wp2_with (first | (go_at_call 8; refine (tinc_g HT.out x (by have := Hle.out; omega)).mono ?_; rintro e w3 ⟨v, rfl, h1⟩; have HT : Hid _ := h1; clear h1))
      go_roundw
      case rel => exact ⟨k + 1, by omega, rfl, by rw [Hs.out]; exact HT.out⟩
      case measure => simp [intOf]; omega
    · by_cases hlt2 : k < len
      · obtain rfl : k = 100 := by omega
        go_wp2
        go_loopw [6, 9] (fun u i wr => ∃ (k2 b2 : Nat) (M : Int), k2 ≤ 100 ∧ i = .int .i64 k2 ∧ u = .pointer (some ⟨b2, 0, none⟩) ∧ TU W wr (T 100) b2 M ∧ M + T (100 - k2) = T 100) (fun _ i _ => 100 - (intOf i).toNat)
        case atStart => exact ⟨0, _, 0, by omega, rfl, rfl, HT.out, by simp⟩
        case round =>
          obtain ⟨k2, b2, M, hk2, rfl, rfl, hrel, hM⟩ := hrel
          have HT : Hid _ := hrel
          clear hrel
          by_cases hlt3 : k2 < 100
          · obtain ⟨j, hj⟩ : ∃ j, 100 = k2 + 1 + j := ⟨100 - (k2 + 1), by omega⟩
            obtain ⟨x, hx⟩ : ∃ x, els[j]? = some x := ⟨_, List.getElem?_eq_getElem (by omega)⟩
            obtain rfl : ad = some ⟨b0, off, none⟩ := by rcases had with e | e; omega; exact e
            have hb1 : b0 < W.heap.size := by rcases hb0 with e | e; omega; exact e
            have Hr : Hid (W.rangeAt b0 (off + (99 - k2)) (lay x)) := by
              have e : 99 - k2 = j := by omega
              rw [e]
              exact Hat.out j x hx
            have g0 := cell1 (Hr.out) HT.out.s.keep hb1
            have Hs : Hid (M + g x + T (100 - (k2 + 1)) = T 100) := by
              have e1 := Ts.out j x hx
              have e2 : 100 - k2 = j + 1 := by omega
              have e3 : 100 - (k2 + 1) = j := by omega
              show M + g x + T (100 - (k2 + 1)) = T 100
              rw [e2] at hM
              rw [e3]
              omega
            have Hle : Hid (-2147483648 * 100 - 2147483648 * 100 ≤ M ∧ M ≤ 2147483648 * 100 + 2147483648 * 100) := by
              have h1 := Tl.out (100 - k2)
              have h2 := Tl.out 100
              show -2147483648 * 100 - 2147483648 * 100 ≤ M ∧ M ≤ 2147483648 * 100 + 2147483648 * 100
              omega
            have hjj : (100 : Int) - 1 - (k2 : Int) = (j : Int) := by omega
            clear hx had hb0 hM hj hjj
            by_cases hAt : (k2 : Int) = A
            · subst hAt
              go_wp2_with (first | (go_at_call 11; refine (uput HT.out).mono ?_; rintro e w5 ⟨rfl, h1⟩; have HT : Hid _ := h1; clear h1; have g0 := cell1 (Hr.out) HT.out.s.keep hb1) | (go_at_call 13; refine (load_tu HT.out.s (by have := Hle.out; omega) (by have := Hle.out; omega)).mono ?_; rintro e w6 ⟨b3, rfl, h1⟩; have HT : Hid _ := h1; clear h1; have g0 := cell1 (Hr.out) HT.out.s.keep hb1) | (go_at_call 8; refine (uinc_g HT.out x (by have := Hle.out; omega)).mono ?_; rintro e w7 ⟨v, rfl, h1⟩; have HT : Hid _ := h1; clear h1))
              go_roundw
              case rel => exact ⟨k2 + 1, _, _, by omega, rfl, rfl, HT.out, Hs.out⟩
              case measure => simp [intOf]; omega
            · have hAt2 : ((k2 : Int) == A) = false := by simpa using hAt
              go_wp2_with (first | (go_at_call 11; refine (uput HT.out).mono ?_; rintro e w5 ⟨rfl, h1⟩; have HT : Hid _ := h1; clear h1; have g0 := cell1 (Hr.out) HT.out.s.keep hb1) | (go_at_call 13; refine (load_tu HT.out.s (by have := Hle.out; omega) (by have := Hle.out; omega)).mono ?_; rintro e w6 ⟨b3, rfl, h1⟩; have HT : Hid _ := h1; clear h1; have g0 := cell1 (Hr.out) HT.out.s.keep hb1) | (go_at_call 8; refine (uinc_g HT.out x (by have := Hle.out; omega)).mono ?_; rintro e w7 ⟨v, rfl, h1⟩; have HT : Hid _ := h1; clear h1))
              go_roundw
              case rel => exact ⟨k2 + 1, _, _, by omega, rfl, rfl, HT.out, Hs.out⟩
              case measure => simp [intOf]; omega
          · obtain rfl : k2 = 100 := by omega
            rw [Nat.sub_self, T0.out, Int.add_zero] at hM
            subst hM
            go_wp2_with (first | (go_at_call 10; first | (refine (un HA.out).mono ?_; rintro e w2 ⟨rfl, h1⟩; have HB : Hid _ := h1; clear h1) | (refine (tn_tu HT.out).mono ?_; rintro e w2 ⟨rfl, h1⟩; have HA : Hid _ := h1; clear h1)) | (go_at_call 11; first | (refine (uput HC.out).mono ?_; rintro e w2 ⟨rfl, h1⟩; have HD : Hid _ := h1; clear h1) | (refine (tput_tu HB.out).mono ?_; rintro e w2 ⟨rfl, h1⟩; have HC : Hid _ := h1; clear h1)) | (go_at_call 14; refine (awake_tu HD.out).mono ?_; rintro e w2 ⟨rfl, h1⟩; have HE : Hid _ := h1; clear h1))
            go_ret
            exact ⟨rfl, HE.out.s.keep.below (Nat.le_refl _) (fun _ h => h)⟩
      · obtain rfl : k = len := by omega
        go_wp2
        go_loopw [6, 9] (fun u i wr => ∃ (k2 b2 : Nat) (M : Int), k2 ≤ k ∧ i = .int .i64 k2 ∧ u = .pointer (some ⟨b2, 0, none⟩) ∧ TU W wr (T k) b2 M ∧ M + T (k - k2) = T k) (fun _ i _ => k - (intOf i).toNat)
        case atStart => exact ⟨0, _, 0, by omega, rfl, rfl, HT.out, by simp⟩
        case round =>
          obtain ⟨k2, b2, M, hk2, rfl, rfl, hrel, hM⟩ := hrel
          have HT : Hid _ := hrel
          clear hrel
          by_cases hlt3 : k2 < k
          · obtain ⟨j, hj⟩ : ∃ j, k = k2 + 1 + j := ⟨k - (k2 + 1), by omega⟩
            obtain ⟨x, hx⟩ : ∃ x, els[j]? = some x := ⟨_, List.getElem?_eq_getElem (by omega)⟩
            obtain rfl : ad = some ⟨b0, off, none⟩ := by rcases had with e | e; omega; exact e
            have hb1 : b0 < W.heap.size := by rcases hb0 with e | e; omega; exact e
            have Hr : Hid (W.rangeAt b0 (off + (k - 1 - k2)) (lay x)) := by
              have e : k - 1 - k2 = j := by omega
              rw [e]
              exact Hat.out j x hx
            have g0 := cell1 (Hr.out) HT.out.s.keep hb1
            have Hs : Hid (M + g x + T (k - (k2 + 1)) = T k) := by
              have e1 := Ts.out j x hx
              have e2 : k - k2 = j + 1 := by omega
              have e3 : k - (k2 + 1) = j := by omega
              show M + g x + T (k - (k2 + 1)) = T k
              rw [e2] at hM
              rw [e3]
              omega
            have Hle : Hid (-2147483648 * 100 - 2147483648 * 100 ≤ M ∧ M ≤ 2147483648 * 100 + 2147483648 * 100) := by
              have h1 := Tl.out (k - k2)
              have h2 := Tl.out k
              show -2147483648 * 100 - 2147483648 * 100 ≤ M ∧ M ≤ 2147483648 * 100 + 2147483648 * 100
              omega
            have hjj : (k : Int) - 1 - (k2 : Int) = (j : Int) := by omega
            clear hx had hb0 hM hj hjj
            by_cases hAt : (k2 : Int) = A
            · subst hAt
              go_wp2_with (first | (go_at_call 11; refine (uput HT.out).mono ?_; rintro e w5 ⟨rfl, h1⟩; have HT : Hid _ := h1; clear h1; have g0 := cell1 (Hr.out) HT.out.s.keep hb1) | (go_at_call 13; refine (load_tu HT.out.s (by have := Hle.out; omega) (by have := Hle.out; omega)).mono ?_; rintro e w6 ⟨b3, rfl, h1⟩; have HT : Hid _ := h1; clear h1; have g0 := cell1 (Hr.out) HT.out.s.keep hb1) | (go_at_call 8; refine (uinc_g HT.out x (by have := Hle.out; omega)).mono ?_; rintro e w7 ⟨v, rfl, h1⟩; have HT : Hid _ := h1; clear h1))
              go_roundw
              case rel => exact ⟨k2 + 1, _, _, by omega, rfl, rfl, HT.out, Hs.out⟩
              case measure => simp [intOf]; omega
            · have hAt2 : ((k2 : Int) == A) = false := by simpa using hAt
              go_wp2_with (first | (go_at_call 11; refine (uput HT.out).mono ?_; rintro e w5 ⟨rfl, h1⟩; have HT : Hid _ := h1; clear h1; have g0 := cell1 (Hr.out) HT.out.s.keep hb1) | (go_at_call 13; refine (load_tu HT.out.s (by have := Hle.out; omega) (by have := Hle.out; omega)).mono ?_; rintro e w6 ⟨b3, rfl, h1⟩; have HT : Hid _ := h1; clear h1; have g0 := cell1 (Hr.out) HT.out.s.keep hb1) | (go_at_call 8; refine (uinc_g HT.out x (by have := Hle.out; omega)).mono ?_; rintro e w7 ⟨v, rfl, h1⟩; have HT : Hid _ := h1; clear h1))
              go_roundw
              case rel => exact ⟨k2 + 1, _, _, by omega, rfl, rfl, HT.out, Hs.out⟩
              case measure => simp [intOf]; omega
          · obtain rfl : k2 = k := by omega
            rw [Nat.sub_self, T0.out, Int.add_zero] at hM
            subst hM
            go_wp2_with (first | (go_at_call 10; first | (refine (un HA.out).mono ?_; rintro e w2 ⟨rfl, h1⟩; have HB : Hid _ := h1; clear h1) | (refine (tn_tu HT.out).mono ?_; rintro e w2 ⟨rfl, h1⟩; have HA : Hid _ := h1; clear h1)) | (go_at_call 11; first | (refine (uput HC.out).mono ?_; rintro e w2 ⟨rfl, h1⟩; have HD : Hid _ := h1; clear h1) | (refine (tput_tu HB.out).mono ?_; rintro e w2 ⟨rfl, h1⟩; have HC : Hid _ := h1; clear h1)) | (go_at_call 14; refine (awake_tu HD.out).mono ?_; rintro e w2 ⟨rfl, h1⟩; have HE : Hid _ := h1; clear h1))
            go_ret
            exact ⟨rfl, HE.out.s.keep.below (Nat.le_refl _) (fun _ h => h)⟩

theorem own : ownKnob Try.prog.godebug = none := by kernel_rfl
theorem laidOut : laidOutB Try.prog = true := by kernel_rfl
theorem contract (H : Type) (enc : TypeId × Value → H) (W : World) (base : Nat) (args : Array Value) (ds gs : List (DataW H)) (before : List MemPlace)
    (hval : ∀ (j : Nat) t v, Try.f5.params[j]? = some t → args[j]? = some v → Value.okWide Try.prog W .any base t v)
    (hW : DataW.Whole enc Try.prog Try.f5.params.toList Rows.tallyOrderSpec.vars false W args.toList ds gs before) :
    Calls Try.prog 5 args W fun e W' => ∃ v, e = .returned v ∧ Rows.tallyOrderSpec.post enc Try.prog Try.f5 false true false false W args v W' := by
  have hW' := hW
  obtain ⟨p, q, hA0, hV, rfl, hfz, hnd⟩ := hW
  have hA : DataW.TrodAll enc Try.prog W 0 (fun _ => true) true Try.f5.params.toList args.toList ds p := hA0
  rw [Try.params5] at hA hval
  obtain ⟨rfl, rfl⟩ := trodVars_none hV
  obtain ⟨v0, vs0, d0, ds0, p0, q0, hargs, rfl, rfl, h0, r0⟩ := trodAll_cons hA
  obtain ⟨v1, vs1, d1, ds1, p1, q1, rfl, rfl, rfl, h1, r1⟩ := trodAll_cons r0
  obtain ⟨rfl, rfl, rfl⟩ := trodAll_nil r1
  obtain rfl : args = #[v0, v1] := by cases args; simp_all
  obtain ⟨⟨a, len, cap, els⟩, rfl, hat, hbk⟩ := Opn.open_sl Try.underlying22 rdl (hval 0 _ v0 rfl rfl) h0
  obtain ⟨A, rfl, rfl, rfl, hA1⟩ := open_int Try.underlying5 (hval 1 _ v1 rfl rfl) h1
  have hA2 : 0 ≤ A ∧ A < 256 := by
    simp [Lit.wf, IntKind.min, IntKind.max, IntKind.signed, IntKind.bits] at hA1
    omega
  obtain ⟨e1, e2, e3, e4⟩ := hat
  simp only at e1 e2 e3 e4 hbk
  have key : Calls Try.prog 5 #[.slice a len cap, .int .u8 A] W fun e W' => e = .returned (.bool true) ∧ Below W.heap.size W W' := by
    rcases e4 with e4 | ⟨b, off, rfl, hb, hel⟩
    · subst e4
      obtain rfl : els = [] := List.length_eq_zero_iff.1 e1
      exact go (sg []) [] rfl (sg_succ []) (sg_le []) A 0 0 0 cap W hA2 rfl (.inl rfl) (Nat.zero_le _) a (.inl rfl) (fun i x h => by simp at h)
    · exact go (sg els) els rfl (sg_succ els) (sg_le els) A b off len cap W hA2 e1 (.inr hb) (Nat.le_trans e2 e3) _ (.inr rfl) hel
  refine key.mono fun e W' ⟨he, bel⟩ => ?_
  subst he
  exact ⟨_, rfl, Opn.law_post laidOut (by kernel_rfl) rfl Try.underlying4 rfl rfl hW' bel⟩
set_option maxRecDepth 100000 in
theorem lifted (os : Os) (started : os.Started) (H : Type) (enc : TypeId × Value → H) :
    ReturnsInHanded {} Try.checked os 5 .any (Rows.tallyOrderSpec.pre6 enc Try.prog Try.f5 Rows.tallyOrderRow.domain false) (Rows.tallyOrderSpec.post enc Try.prog Try.f5 false true false false) := by
  refine returnsInHanded_of_change (C := Try.checked) own started (by kernel_rfl) Try.func5
    (ChangeSpec.witness6 (enc := enc) (C := Try.checked) false ⟨#[], #[.slice none 0 0, .int .u8 0], []⟩ 8 (by kernel_rfl) (by kernel_rfl) (by kernel_rfl) (by kernel_rfl)) ?_
  intro W base args ds gs before hval0 hW hcnd _
  exact contract H enc W base args ds gs before hval0 hW
theorem over : Rows.tallyOrderRow.holds Try.pinned (OpenSpec.ofChange Rows.tallyOrderSpec) :=
  OpenClaim.holds_of_wide 5 Try.f5 rfl rfl rfl rfl rfl rfl rfl ⟨rfl, rfl, rfl, rfl, rfl⟩ rfl rfl rfl rfl rfl (by kernel_rfl) Try.func5 (by kernel_rfl)
    (of_decide_eq_true (by kernel_rfl)) (by unfold Func.isWrapper; first | (rw [if_pos (by decide +kernel)]; kernel_rfl) | (rw [if_neg (by decide +kernel)]; exact ⟨rfl, rfl⟩))
    (fun os started H enc _ => lifted os started H enc)
theorem proved : Rows.TallyOrderSaid := over
end TalOrder
end Go.Proofs.Ytkambiodgoiefaa
