/-
  fetch: next, fill.
-/
import Derived.Test.YtgllkfolckbdhaaFe6
set_option linter.unusedVariables false
set_option linter.unusedSimpArgs false
namespace Go.Proofs.Ytgllkfolckbdhaa
open Go.RowKit
namespace Fe
open Oct Ids Mp
open Mem (M It blk ids rows)
/-- Is an id asked for? -/
def isIn (L : List Fd) (u : Wd) : Bool := (fidx L u).isSome
theorem isIn_iff {L : List Fd} {u : Wd} : isIn L u = true ↔ ∃ x ∈ L, x.u = u := by
  unfold isIn fidx
  rw [List.findIdx?_isSome, List.any_eq_true]
  simp
/-- The next place without a fetching. -/
def nxtK (L : List Fd) (ms : List Wd) (at_ : Nat) : Nat → Option Nat
  | 0 => none
  | k + 1 => match nxtK L ms at_ k with
    | some j => some j
    | none => if isIn L (ms.getD ((at_ + k) % ms.length) []) = false then some ((at_ + k) % ms.length) else none
def nxt (L : List Fd) (ms : List Wd) (at_ : Nat) : Option Nat := nxtK L ms at_ ms.length
theorem nxtK_stay {L : List Fd} {ms : List Wd} {at_ k j : Nat} (h : nxtK L ms at_ k = some j) : ∀ m, k ≤ m → nxtK L ms at_ m = some j
  | 0, hm => by have : k = 0 := by omega
                subst this; exact h
  | m + 1, hm => by
    rcases Nat.lt_or_ge m k with h1 | h1
    · have : k = m + 1 := by omega
      subst this; exact h
    · unfold nxtK
      rw [nxtK_stay h m h1]
theorem _root_.Go.Proofs.Ytgllkfolckbdhaa.Ids.At.rng0 {w : World} {g o n : Nat} {els : List Wd} (h : At w (some ⟨g, o, none⟩) n els) {i : Nat} {x : Wd} (hx : els[i]? = some x) : w.rangeAt g (o + i * 32) (x.map bv) := by
  rcases h.lay with e | ⟨b, off, ha, _, hr⟩
  · have := (List.getElem?_eq_some_iff.1 hx).1
    rw [h.len] at this
    omega
  · cases ha
    exact hr i x hx
theorem fptr_some {F : Nat → Prop} {w0 w : World} {b b2 : Nat} {lv hv : Value} {L : List Fd} {H : List Wd} {at_ : Int} {S : List Int} {sf : Int} {it : List It} (h : M F w0 w (fit b b2 lv hv L H at_ S sf ++ it)) {u : Wd} {q : Nat} (hi : fidx L u = some q) : ∃ ad, fptr lv (some q) = .pointer (some ad) := by
  have ho : OwnF w lv L := h.get 1 rfl
  rcases own_form ho with ⟨_, e⟩ | ⟨g, c, e⟩
  · subst e; cases hi
  · subst e; exact ⟨_, rfl⟩
set_option maxRecDepth 100000 in
set_option maxHeartbeats 4000000 in
theorem fnext (w : World) (b b2 : Nat) (lv hv : Value) (L : List Fd) (H : List Wd) (at_ : Nat) (S : List Int) (sf : Int) (h : FAt w b b2 lv hv L H at_ S sf) (hL : L.length ≤ 100) (hat : at_ ≤ 1000) (a : Option Addr) (n c : Nat) (ms : List Wd) (hA : At w a n ms) (hn : n ≤ 1000) (hap : Apart b b2 lv hv a n) :
    Calls Try.prog 44 #[.pointer (some ⟨b, 0, none⟩), .slice a n c] w fun e w' =>
      (nxt L ms at_ = none ∧ e = .returned (.tuple #[.agg z32, .bool false]) ∧ FTo w w' b b2 lv hv lv hv L H at_ S sf) ∨
      ∃ j u, nxt L ms at_ = some j ∧ ms[j]? = some u ∧ e = .returned (.tuple #[idv u, .bool true]) ∧ FTo w w' b b2 lv hv lv hv L H ((j + 1) % n : Nat) S sf := by
  have HM : Hid (M (ffoot b b2 lv hv) w _ (fit b b2 lv hv L H at_ S sf ++ [blk w.heap.size (.cells z32 32)])) := h.all.alloc (.cells z32 32) rfl
  have HA : Hid (∀ w', Keep (ffoot b b2 lv hv) w w' → At w' a n ms) := fun w' k => At.keepN hA k hap
  have HLl : Hid (L.length ≤ 100) := hL
  have Hn : Hid (ms.length = n) := hA.len
  have HF : Hid (∀ (w' : World) (it : List It), M (ffoot b b2 lv hv) w w' (fit b b2 lv hv L H at_ S sf ++ it) → ∀ u : Wd, u.length = 32 → Calls Try.prog 33 #[.pointer (some ⟨b, 0, none⟩), idv u] w' fun e w'' => e = .returned (fptr lv (fidx L u)) ∧ Keep (fun _ => False) w' w'') := fun w' it m u hu => ffind w' b b2 lv hv L H at_ S sf (mkF (m.take 4)) hL u hu
  clear h hL hA hap
  go_enter Try.func44, Try.ntmps44
  go_wp2_with (first | ((with_reducible refine at_alloc 32 ?_); refine St.wl_alloc tyI rfl rfl rfl ?_; simp only [Act.put, List.setIfInBounds_toArray, List.set_cons_zero, List.set_cons_succ]))
  go_loopw [10] (fun s10 wr => ∃ (k : Nat), k ≤ n ∧ s10 = .int .i64 k ∧ nxtK L ms at_ k = none ∧ M (ffoot b b2 lv hv) w wr (fit b b2 lv hv L H at_ S sf ++ [blk w.heap.size (.cells z32 32)])) (fun s10 _ => n - (intOf s10).toNat)
  case atStart => exact ⟨0, Nat.zero_le _, by go_num, rfl, HM.out⟩
  case round =>
    clear HM
    obtain ⟨k, hk, rfl, hno, hM⟩ := hrel
    have HM : Hid (M (ffoot b b2 lv hv) w wr (fit b b2 lv hv L H at_ S sf ++ [blk w.heap.size (.cells z32 32)])) := hM
    have HNo : Hid (nxtK L ms at_ k = none) := hno
    clear hM hno
    by_cases hlt : k < n
    · obtain ⟨j, hj⟩ : ∃ j, (at_ + k) % n = j := ⟨_, rfl⟩
      have hjn : j < n := by rw [← hj]; exact Nat.mod_lt _ (by omega)
      obtain ⟨u, hu⟩ : ∃ u, ms[j]? = some u := ⟨_, List.getElem?_eq_getElem (by rw [Hn.out]; exact hjn)⟩
      have HSt : Hid (nxtK L ms at_ (k + 1) = if isIn L u = false then some j else none) := by
        show _ = _
        rw [nxtK, HNo.out]
        simp only [Hn.out, hj]
        rw [show ms.getD j [] = u from by rw [List.getD, hu]; rfl]
      have hadd : IntKind.i64.wrap ((at_ : Int) + (k : Int)) = ((at_ + k : Nat) : Int) := by rw [IntWalk.i64_in _ (by omega)]; omega
      have HU : Hid (u.length = 32) := (HA.out _ HM.out.keep).size u (List.mem_of_getElem? hu)
      obtain ⟨g0, o0, e0, _, hr0⟩ := (HA.out _ HM.out.keep).lay.resolve_left (by omega)
      subst e0
      have R1 : Hid (wr.rangeAt g0 (o0 + j * 32) (u.map bv)) := hr0 j u hu
      have Hu : Hid (ms[j]? = some u) := hu
      have c3 := HM.out.cell 0 rfl 3 (v := .int .i64 (at_ : Int)) rfl
      have hmod : ((at_ : Int) + (k : Int)) % (n : Int) = (j : Int) := by rw [← hj]; norm_cast
      have hj1 : IntKind.i64.wrap ((j : Int) + 1) = ((j : Int) + 1) := IntWalk.i64_in _ (by omega)
      have HMd : Hid (((j : Int) + 1) % (n : Int) = (((j + 1) % n : Nat) : Int)) := by show _ = _; norm_cast
      clear hr0 hu
      cases hi : fidx L u with
      | none =>
        have HNx : Hid (nxt L ms at_ = some j) := by
          have e : nxtK L ms at_ (k + 1) = some j := by rw [HSt.out, if_pos (by unfold isIn; rw [hi]; rfl)]
          have h2 := nxtK_stay e ms.length (by rw [Hn.out]; omega)
          exact h2
        have HP : Hid (fptr lv (fidx L u) = .pointer none) := by show _ = _; rw [hi]; rfl
        clear hi
        go_wp2_with (first | ((with_reducible refine at_load 32 ?_); first | (refine Ids.wl_load rfl rfl rfl HU.out R1.out ?_; simp only [Act.put, List.setIfInBounds_toArray, List.set_cons_zero, List.set_cons_succ]) | (refine Ids.wl_load rfl rfl rfl HU.out R2.out ?_; simp only [Act.put, List.setIfInBounds_toArray, List.set_cons_zero, List.set_cons_succ])) | (go_at_call 33; refine (HF.out _ _ HM.out u HU.out).mono ?_; rintro e w2 ⟨rfl, k2⟩; rw [HP.out]; have HM : Hid _ := HM.out.calm k2; have c3' := HM.out.cell 0 rfl 3 (v := .int .i64 (at_ : Int)) rfl; clear k2) | ((with_reducible refine at_store 3 ?_); refine wpList_plain rfl fun K hK => wp_storeInt (v := ((j : Int) + 1) % (n : Int)) rfl rfl rfl rfl (HM.out.cell 0 rfl 3 rfl) (HM.out.free 0 rfl 3) (hK _ _ ?_); have HM := HM.out.setc 0 rfl 3 (.int .i64 (((j : Int) + 1) % (n : Int))); rw [HMd.out] at HM ⊢; have HM : Hid _ := HM; have R2 : Hid (World.rangeAt _ g0 (o0 + j * 32) (u.map bv)) := (HA.out _ HM.out.keep).rng0 Hu.out) | ((with_reducible refine at_store 32 ?_); refine St.wl_store tyI rfl rfl rfl rfl rfl (cs := (u.map bv).toArray) (by rw [List.size_toArray, List.length_map]; exact HU.out) (one_bv _) (HM.out.get 4 rfl) rfl ?_; have HM : Hid _ := HM.out.setr 4 rfl (u.map bv).toArray))
        refine bodyPost_ret (St.res2 tyI rfl _ _ _ (u.map bv).toArray (by rw [List.size_toArray, List.length_map]; exact HU.out) rfl (HM.out.get 4 rfl) _ rfl) rfl ?_
        exact .inr ⟨j, u, HNx.out, Hu.out, rfl, FTo.of (HM.out.take 4)⟩
      | some q =>
        have HNx : Hid (nxtK L ms at_ (k + 1) = none) := by
          show _ = _
          rw [HSt.out, if_neg (by unfold isIn; rw [hi]; simp)]
        have HP : Hid (fptr lv (fidx L u) = fptr lv (some q)) := by show _ = _; rw [hi]
        obtain ⟨fa, hfa⟩ : ∃ ad, fptr lv (some q) = .pointer (some ad) := fptr_some HM.out hi
        have HFa : Hid (fptr lv (some q) = .pointer (some fa)) := hfa
        clear hi hfa
        go_wp2_with (first | ((with_reducible refine at_load 32 ?_); (refine Ids.wl_load rfl rfl rfl HU.out R1.out ?_; simp only [Act.put, List.setIfInBounds_toArray, List.set_cons_zero, List.set_cons_succ])) | (go_at_call 33; refine (HF.out _ _ HM.out u HU.out).mono ?_; rintro e w2 ⟨rfl, k2⟩; rw [HP.out, HFa.out]; have HM : Hid _ := HM.out.calm k2; clear k2))
        go_roundw
        case rel => exact ⟨k + 1, by omega, by go_num, HNx.out, HM.out⟩
        case measure => simp [intOf]; omega
    · obtain rfl : k = n := by omega
      go_wp2_with (first | (refine wl_buildL rfl rfl [] rfl (cs := z32) (by kernel_rfl) ?_; simp only [Act.put, List.setIfInBounds_toArray, List.set_cons_zero, List.set_cons_succ]) | ((with_reducible refine at_store 32 ?_); refine St.wl_store tyI rfl rfl rfl rfl rfl (cs := z32) rfl (one_bv (List.replicate 32 0)) (HM.out.get 4 rfl) rfl ?_; have HM : Hid _ := HM.out.setr 4 rfl z32))
      refine bodyPost_ret (St.res2 tyI rfl _ _ _ z32 rfl rfl (HM.out.get 4 rfl) _ rfl) rfl ?_
      exact .inl ⟨by unfold nxt; rw [Hn.out]; exact HNo.out, rfl, FTo.of (HM.out.take 4)⟩
end Fe
end Go.Proofs.Ytgllkfolckbdhaa
