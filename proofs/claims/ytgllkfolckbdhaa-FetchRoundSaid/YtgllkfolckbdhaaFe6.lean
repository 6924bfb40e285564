/-
  fetch: keep, next, fill.
-/
import Derived.Test.YtgllkfolckbdhaaFe5
set_option linter.unusedVariables false
set_option linter.unusedSimpArgs false
namespace Go.Proofs.Ytgllkfolckbdhaa
open Go.RowKit
namespace Fe
open Oct Ids Mp
open Mem (M It blk ids rows)
set_option maxRecDepth 100000 in
/-- A closure's answer: an id that is not among those that are missing. -/
theorem keep1_any (w : World) (b0 : Nat) (a : Option Addr) (n c : Nat) (ms : List Wd) (fr : Nat × Nat) (hb : w.heap[b0]? = some (.cells #[.slice a n c] 30 fr)) (hA : At w a n ms) (hn : n ≤ 1000) (x : Fd) :
    Calls Try.prog 42 #[.agg (fe x).toArray, .pointer (some ⟨b0, 0, none⟩)] w fun e w' => e = .returned (.bool (!decide (x.u ∈ ms))) ∧ Keep (fun _ => False) w w' := by
  have HM : Hid (M (fun _ => False) w _ [blk w.heap.size (.cells (fe x).toArray 39)]) := (M.start _ w).alloc (.cells (fe x).toArray 39) rfl
  have HU : Hid (x.u.length = 32) := x.hu
  have c0 : (w.alloc (.cells (fe x).toArray 39)).cell? ⟨b0, 0, none⟩ = some (.slice a n c) := kcell HM.out.keep (by rw [cell_of hb]; rfl)
  have HH : Hid (Calls Try.prog 36 #[.slice a n c, idv x.u] (w.alloc (.cells (fe x).toArray 39)) fun e w' => e = .returned (.bool (decide (x.u ∈ ms))) ∧ Keep (fun _ => False) (w.alloc (.cells (fe x).toArray 39)) w') := has_any _ a n c ms (hA.calm HM.out.keep) (by omega) x.u x.hu
  have R1 : Hid (World.rangeAt _ w.heap.size 0 (x.u.map bv)) := fe_rng (HM.out.range 0 rfl)
  clear hb hA
  generalize decide (x.u ∈ ms) = r at HH ⊢
  go_enter Try.func42, Try.ntmps42
  go_wp2_with (first | ((with_reducible refine at_load 32 ?_); refine Ids.wl_load rfl rfl rfl HU.out R1.out ?_; simp only [Act.put, List.setIfInBounds_toArray, List.set_cons_zero, List.set_cons_succ]) | (go_at_call 36; refine HH.out.mono ?_; rintro e w2 ⟨rfl, k2⟩; have HM : Hid _ := HM.out.calm k2; clear k2))
  go_ret
  exact ⟨rfl, HM.out.keep⟩
theorem keep1_eg : ∀ args w, (callFunc 42 args).run Try.prog w = .ok (.enter 42 args) w := enters_of Try.func42 (by kernel_rfl) rfl
set_option maxRecDepth 100000 in
theorem keep2_any (w : World) (b0 : Nat) (a : Option Addr) (n c : Nat) (ms : List Wd) (fr : Nat × Nat) (hb : w.heap[b0]? = some (.cells #[.slice a n c] 30 fr)) (hA : At w a n ms) (hn : n ≤ 1000) (u : Wd) (hu : u.length = 32) :
    Calls Try.prog 43 #[idv u, .pointer (some ⟨b0, 0, none⟩)] w fun e w' => e = .returned (.bool (!decide (u ∈ ms))) ∧ Keep (fun _ => False) w w' := by
  have HM : Hid (M (fun _ => False) w _ [blk w.heap.size (.cells (u.map bv).toArray 32)]) := (M.start _ w).alloc (.cells (u.map bv).toArray 32) rfl
  have HU : Hid (u.length = 32) := hu
  have c0 : (w.alloc (.cells (u.map bv).toArray 32)).cell? ⟨b0, 0, none⟩ = some (.slice a n c) := kcell HM.out.keep (by rw [cell_of hb]; rfl)
  have HH : Hid (Calls Try.prog 36 #[.slice a n c, idv u] (w.alloc (.cells (u.map bv).toArray 32)) fun e w' => e = .returned (.bool (decide (u ∈ ms))) ∧ Keep (fun _ => False) (w.alloc (.cells (u.map bv).toArray 32)) w') := has_any _ a n c ms (hA.calm HM.out.keep) (by omega) u hu
  clear hb hA hu
  generalize decide (u ∈ ms) = r at HH ⊢
  go_enter Try.func43, Try.ntmps43
  go_wp2_with (first | ((with_reducible refine at_load 32 ?_); refine Ids.wl_load rfl rfl rfl HU.out (HM.out.range 0 rfl) ?_; simp only [Act.put, List.setIfInBounds_toArray, List.set_cons_zero, List.set_cons_succ]) | (go_at_call 36; refine HH.out.mono ?_; rintro e w2 ⟨rfl, k2⟩; have HM : Hid _ := HM.out.calm k2; clear k2))
  go_ret
  exact ⟨rfl, HM.out.keep⟩
theorem keep2_eg : ∀ args w, (callFunc 43 args).run Try.prog w = .ok (.enter 43 args) w := enters_of Try.func43 (by kernel_rfl) rfl
/-- Ids that lie apart from a Fetch. -/
def Apart (b b2 : Nat) (lv hv : Value) (a : Option Addr) (n : Nat) : Prop := ∀ g o, a = some ⟨g, o, none⟩ → n ≠ 0 → ¬ ffoot b b2 lv hv g
theorem At.keepN {w w' : World} {a : Option Addr} {n : Nat} {els : List Wd} (h : At w a n els) {S : Nat → Prop} (k : Keep S w w') (hn : ∀ g o, a = some ⟨g, o, none⟩ → n ≠ 0 → ¬ S g) : At w' a n els := by
  refine ⟨h.len, h.size, h.most, ?_⟩
  rcases h.lay with e | ⟨b, off, ha, hb, hr⟩
  · exact .inl e
  · by_cases h0 : n = 0
    · exact .inl h0
    · exact .inr ⟨b, off, ha, Nat.lt_of_lt_of_le hb k.size, fun i x hi => k.range hb (hn b off ha h0) (hr i x hi)⟩
def inL (ms : List Wd) (x : Fd) : Bool := decide (x.u ∈ ms)
def inH (ms : List Wd) (u : Wd) : Bool := decide (u ∈ ms)
set_option maxRecDepth 100000 in
set_option maxHeartbeats 4000000 in
theorem fkeep (w : World) (b b2 : Nat) (lv hv : Value) (L : List Fd) (H : List Wd) (at_ : Int) (S : List Int) (sf : Int) (h : FAt w b b2 lv hv L H at_ S sf) (hL : L.length ≤ 100) (hH : H.length ≤ 1000) (a : Option Addr) (n c : Nat) (ms : List Wd) (hA : At w a n ms) (hn : n ≤ 1000) (hap : Apart b b2 lv hv a n) :
    Calls Try.prog 27 #[.pointer (some ⟨b, 0, none⟩), .slice a n c] w fun e w' => e = .returned (.tuple #[]) ∧ ∃ lv' hv', FTo w w' b b2 lv hv lv' hv' (L.filter (inL ms)) (H.filter (inH ms)) at_ S sf := by
  have HM : Hid (M (ffoot b b2 lv hv) w _ (fit b b2 lv hv L H at_ S sf ++ [blk w.heap.size (.cells #[.slice a n c] 30)])) := h.all.alloc (.cells #[.slice a n c] 30) rfl
  have HA : Hid (∀ w', Keep (ffoot b b2 lv hv) w w' → At w' a n ms) := fun w' k => At.keepN hA k hap
  have HLl : Hid (L.length ≤ 100) := hL
  have HHl : Hid (H.length ≤ 1000) := hH
  have HD : Hid (∀ (w1 : World) (v : Value), Keep (ffoot b b2 lv hv) w w1 → OwnF w1 v L → v = lv → w1.heap[w.heap.size]? = some (.cells #[.slice a n c] 30 (0, 0)) → (∀ k, v.ownBlock = some k → k ≠ w.heap.size) →
      Calls Try.prog 37 #[v, .func (.func 42) #[] #[.pointer (some ⟨w.heap.size, 0, none⟩)]] w1 fun e w' => ∃ v', e = .returned v' ∧ OwnF w' v' (L.filter (inL ms)) ∧ v'.ownBlock = v.ownBlock ∧ Keep (fun k => v.ownBlock = some k) w1 w') := by
    intro w1 v k1 ho ev hb hne
    have e : (L.filter fun x => !!decide (x.u ∈ ms)) = L.filter (inL ms) := List.filter_congr fun x _ => Bool.not_not _
    rw [← e]
    refine fdelete_any w1 v L ho (by omega) _ #[] #[.pointer (some ⟨w.heap.size, 0, none⟩)] (fun x => !decide (x.u ∈ ms)) keep1_eg (fun w2 x _ k2 => ?_)
    exact keep1_any w2 w.heap.size a n c ms (0, 0) (k2.get hb (fun e => hne _ e rfl)) (HA.out w2 (k1.trans (k2.mono fun k _ e => .inr (.inl (by rw [← ev]; exact e))))) hn x
  have HD2 : Hid (∀ (w1 : World) (v : Value), Keep (ffoot b b2 lv hv) w w1 → Ids.Own w1 v H → v = hv → w1.heap[w.heap.size]? = some (.cells #[.slice a n c] 30 (0, 0)) → (∀ k, v.ownBlock = some k → k ≠ w.heap.size) →
      Calls Try.prog 39 #[v, .func (.func 43) #[] #[.pointer (some ⟨w.heap.size, 0, none⟩)]] w1 fun e w' => ∃ v', e = .returned v' ∧ Ids.Own w' v' (H.filter (inH ms)) ∧ v'.ownBlock = v.ownBlock ∧ Keep (fun k => v.ownBlock = some k) w1 w') := by
    intro w1 v k1 ho ev hb hne
    have e : (H.filter fun x => !!decide (x ∈ ms)) = H.filter (inH ms) := List.filter_congr fun x _ => Bool.not_not _
    rw [← e]
    refine Ids.delete_any w1 v H ho (by omega) _ #[] #[.pointer (some ⟨w.heap.size, 0, none⟩)] (fun x => !decide (x ∈ ms)) keep2_eg (fun w2 x k2 hx => ?_)
    exact keep2_any w2 w.heap.size a n c ms (0, 0) (k2.get hb (fun e => hne _ e rfl)) (HA.out w2 (k1.trans (k2.mono fun k _ e => .inr (.inr (.inl (by rw [← ev]; exact e)))))) hn x hx
  clear h hL hH hA hap
  obtain ⟨la, lc, e1, _⟩ := (show OwnF _ lv L from HM.out.get 1 rfl).any
  obtain ⟨ha, hc, e2, _⟩ := (show Ids.Own _ hv H from HM.out.get 2 rfl).at
  obtain ⟨ln, hln⟩ : ∃ q, L.length = q := ⟨_, rfl⟩
  obtain ⟨hn', hhn⟩ : ∃ q, H.length = q := ⟨_, rfl⟩
  rw [hln] at e1
  rw [hhn] at e2
  subst e1 e2
  clear hln hhn
  have c0 := HM.out.cell 0 rfl 0 (v := .slice la ln lc) rfl
  go_enter Try.func27, Try.ntmps27
  go_wp2_with (first | (go_at_call 37; refine (HD.out _ _ HM.out.keep (HM.out.get 1 rfl) rfl (HM.out.get 4 rfl) (fun k hk e => HM.out.dis 1 4 _ _ rfl rfl (by decide) k hk e)).mono ?_; rintro e w2 ⟨v2, rfl, h2, g2, k2⟩; have HM : Hid _ := HM.out.appR 1 rfl h2 k2 (.inl g2); have HG : Hid (∃ a n c, v2 = .slice a n c) := (by obtain ⟨a, c, e, _⟩ := h2.any; exact ⟨_, _, _, e⟩); obtain ⟨a2, n2, c2, e2⟩ := HG.out; subst e2; clear h2 g2 k2 HG c0) | ((with_reducible refine at_store 36 ?_); refine wpList_plain rfl fun K hK => wp_storeF rfl rfl rfl rfl (HM.out.cell 0 rfl 0 rfl) (HM.out.free 0 rfl 0) (hK _ _ ?_); have HM : Hid _ := HM.out.setc 0 rfl 0 (.slice a2 n2 c2); have c2' := HM.out.cell 0 rfl 2 (v := .slice ha hn' hc) rfl) | (go_at_call 39; refine (HD2.out _ _ HM.out.keep (HM.out.get 2 rfl) rfl (HM.out.get 4 rfl) (fun k hk e => HM.out.dis 2 4 _ _ rfl rfl (by decide) k hk e)).mono ?_; rintro e w3 ⟨v3, rfl, h3, g3, k3⟩; have HM : Hid _ := HM.out.appI 2 rfl h3 k3 (.inl g3); have HG : Hid (∃ a n c, v3 = .slice a n c) := (by obtain ⟨a, c, e, _⟩ := h3.at; exact ⟨_, _, _, e⟩); obtain ⟨a3, n3, c3, e3⟩ := HG.out; subst e3; clear h3 g3 k3 HG c2') | ((with_reducible refine at_store 30 ?_); refine wpList_plain rfl fun K hK => wp_storeI rfl rfl rfl rfl (HM.out.cell 0 rfl 2 rfl) (HM.out.free 0 rfl 2) (hK _ _ ?_); have HM : Hid _ := HM.out.setc 0 rfl 2 (.slice a3 n3 c3)))
  go_end0
  exact ⟨rfl, _, _, FTo.of (HM.out.take 4)⟩
end Fe
end Go.Proofs.Ytgllkfolckbdhaa
