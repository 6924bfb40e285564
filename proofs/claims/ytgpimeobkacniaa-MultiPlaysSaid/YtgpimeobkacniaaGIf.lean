/-
  slices.IndexFunc, ContainsFunc, DeleteFunc at ids; ident's member. slices.DeleteFunc at a row of ids of one's own. ident.Has, Without. ident.Is: does it rise? slices.Grow of nil, slices.Concat of two rows of ids, ident.Both. ident.With. slices.BinarySearchFunc at ids; ident.Less.
-/
import Derived.Test.YtgpimeobkacniaaGSr
import Derived.Test.YtgpimeobkacniaaGSt
import Derived.Lib.AppendZeros
import Derived.Handy
import Derived.Test.YtgpimeobkacniaaGTx
set_option linter.unusedVariables false
set_option linter.unusedSimpArgs false

namespace Go.Proofs.Ytgpimeobkacniaa
open Go.RowKit
namespace Ids
open Oct
/-- The first that is so. -/
def idxL (p : List UInt8 → Bool) (l : List (List UInt8)) : Int := match l.findIdx? p with | some i => (i : Int) | none => -1
theorem idxL_some {p : List UInt8 → Bool} {l : List (List UInt8)} {k : Nat} {x : List UInt8} (hx : l[k]? = some x) (hp : p x = true) (hb : ∀ (j : Nat) (y : List UInt8), j < k → l[j]? = some y → p y = false) : idxL p l = k := by
  have hk := (List.getElem?_eq_some_iff.1 hx).1
  have : l.findIdx? p = some k := by
    rw [List.findIdx?_eq_some_iff_getElem]
    refine ⟨hk, ?_, fun j hj => ?_⟩
    · rw [(List.getElem?_eq_some_iff.1 hx).2]; exact hp
    · have := hb j _ hj (List.getElem?_eq_getElem (by omega))
      rw [this]; decide
  unfold idxL
  rw [this]
theorem idxL_none {p : List UInt8 → Bool} {l : List (List UInt8)} (hb : ∀ (j : Nat) (y : List UInt8), j < l.length → l[j]? = some y → p y = false) : idxL p l = -1 := by
  have : l.findIdx? p = none := by
    rw [List.findIdx?_eq_none_iff]
    intro x hx
    obtain ⟨i, hi, rfl⟩ := List.getElem_of_mem hx
    exact hb i _ hi (List.getElem?_eq_getElem hi)
  unfold idxL
  rw [this]
/-- What is asked of a function value: it tells of each id what 'p' says, in whatever world stands behind this one. -/
def Tells (S : Nat → Prop) (w : World) (g : Nat) (bs ls : Array Value) (p : List UInt8 → Bool) : Prop :=
  ∀ (w1 : World) (x : List UInt8), Keep S w w1 → x.length = 32 → Calls Try.prog g (bs.push (idv x) ++ ls) w1 fun e w2 => e = .returned (.bool (p x)) ∧ Keep (fun _ => False) w1 w2
end Ids
end Go.Proofs.Ytgpimeobkacniaa


namespace Go.Proofs.Ytgpimeobkacniaa
open Go.RowKit
namespace Ids
open Oct
theorem Tells.less {S T : Nat → Prop} {w : World} {g : Nat} {bs ls : Array Value} {p : List UInt8 → Bool} (h : Tells S w g bs ls p) (hs : ∀ k, k < w.heap.size → T k → S k) : Tells T w g bs ls p :=
  fun w1 x k1 hx => h w1 x (k1.mono hs) hx
theorem filter_take {p : List UInt8 → Bool} {l : List (List UInt8)} {j : Nat} {x : List UInt8} (hx : l[j]? = some x) : (l.take (j + 1)).filter p = (l.take j).filter p ++ (if p x then [x] else []) := by
  rw [IdL.take_snoc hx, List.filter_append]
  simp only [List.filter_cons, List.filter_nil]
theorem filter_all {p : List UInt8 → Bool} {l : List (List UInt8)} (h : ∀ (j : Nat) (y : List UInt8), l[j]? = some y → p y = true) : l.filter p = l := by
  rw [List.filter_eq_self]
  intro x hx
  obtain ⟨i, hi, rfl⟩ := List.getElem_of_mem hx
  exact h i _ (List.getElem?_eq_getElem hi)
theorem idxL_cases (p : List UInt8 → Bool) (l : List (List UInt8)) : (idxL p l = -1 ∧ ∀ (j : Nat) (y : List UInt8), l[j]? = some y → p y = false) ∨ ∃ (i : Nat) (x : List UInt8), idxL p l = i ∧ l[i]? = some x ∧ p x = true ∧ ∀ (j : Nat) (y : List UInt8), j < i → l[j]? = some y → p y = false := by
  cases hf : l.findIdx? p with
  | none =>
    left
    refine ⟨by unfold idxL; rw [hf], fun j y hj => ?_⟩
    rw [List.findIdx?_eq_none_iff] at hf
    exact hf y (List.mem_of_getElem? hj)
  | some i =>
    right
    rw [List.findIdx?_eq_some_iff_getElem] at hf
    obtain ⟨hi, h1, h2⟩ := hf
    have hx : l[i]? = some l[i] := List.getElem?_eq_getElem hi
    have hb : ∀ (j : Nat) (y : List UInt8), j < i → l[j]? = some y → p y = false := fun j y hj hy => by
      have := h2 j hj
      rw [(List.getElem?_eq_some_iff.1 hy).2] at this
      simpa using this
    exact ⟨i, l[i], idxL_some hx h1 hb, hx, h1, hb⟩
end Ids
end Go.Proofs.Ytgpimeobkacniaa


namespace Go.Proofs.Ytgpimeobkacniaa
open Go.RowKit
namespace Ids
open Oct
theorem idxL_ge (p : List UInt8 → Bool) (l : List (List UInt8)) : decide (0 ≤ idxL p l) = l.any p := by
  rcases idxL_cases p l with ⟨h1, h2⟩ | ⟨i, x, h1, h2, h3, _⟩
  · rw [h1]
    symm
    rw [show decide ((0 : Int) ≤ -1) = false from rfl, List.any_eq_false]
    intro x hx
    obtain ⟨i, hi, rfl⟩ := List.getElem_of_mem hx
    rw [h2 i _ (List.getElem?_eq_getElem hi)]; decide
  · rw [h1]
    symm
    rw [decide_eq_true (Int.natCast_nonneg i), List.any_eq_true]
    exact ⟨x, List.mem_of_getElem? h2, h3⟩
end Ids
end Go.Proofs.Ytgpimeobkacniaa


namespace Go.Proofs.Ytgpimeobkacniaa
open Go.RowKit
namespace Ids
open Oct
theorem srt_take {l : List (List UInt8)} {k : Nat} {x y : List UInt8} (h : IdL.Srt (l.take (k + 1))) (hy : l[k]? = some y) (hx : l[k + 1]? = some x) (hlt : IdL.cmpL y x < 0) : IdL.Srt (l.take (k + 2)) := by
  refine IdL.srt_chain _ fun i a b ha hb => ?_
  rw [List.getElem?_take] at ha hb
  split at hb
  · rename_i h1
    rw [if_pos (by omega)] at ha
    by_cases e : i = k
    · subst e
      rw [hy] at ha
      rw [hx] at hb
      cases ha
      cases hb
      exact hlt
    · refine IdL.srt_next h (i := i) ?_ ?_
      · rw [List.getElem?_take, if_pos (by omega)]; exact ha
      · rw [List.getElem?_take, if_pos (by omega)]; exact hb
  · cases hb
set_option maxRecDepth 100000 in
set_option maxHeartbeats 2000000 in
theorem is_any (w : World) (a : Option Addr) (n c : Nat) (els : List (List UInt8)) (h : At w a n els) (hm : n ≤ 1000000) :
    Calls Try.prog 83 #[.slice a n c] w fun e w' => (∃ r : Bool, e = .returned (.bool r) ∧ (r = true ↔ IdL.Srt els)) ∧ Keep (fun _ => False) w w' := by
  have H : Hid _ := h
  have HN : Hid (els.length = n) := h.len
  have HS0 : Hid (IdL.Srt (els.take 1)) := by
    show IdL.Srt (els.take 1)
    rcases els with _ | ⟨x, l⟩
    · exact List.Pairwise.nil
    · exact List.pairwise_cons.2 ⟨by simp, List.Pairwise.nil⟩
  clear h
  go_enter Try.func83, Try.ntmps83
  go_wp2
  go_loopw [3] (fun i wr => ∃ k : Nat, 1 ≤ k ∧ k ≤ n + 1 ∧ (k ≤ n ∨ k = 1) ∧ i = .int .i64 k ∧ Keep (fun _ => False) w wr ∧ IdL.Srt (els.take k)) (fun i _ => n + 1 - (intOf i).toNat)
  case atStart => exact ⟨1, by omega, by omega, .inr rfl, rfl, Keep.refl _ _, HS0.out⟩
  case round =>
    obtain ⟨k, hk1, hk, hk2, rfl, hkp, hs⟩ := hrel
    have HK : Hid _ := hkp
    have HS : Hid (IdL.Srt (els.take k)) := hs
    clear hkp hs
    by_cases hlt : k < n
    · obtain ⟨p, hp⟩ : ∃ p, k = p + 1 := ⟨k - 1, by omega⟩
      have hwp : IntKind.i64.wrap ((k : Int) - 1) = (p : Int) := by simp [IntKind.wrap, IntKind.bits, IntKind.signed]; omega
      have hpn : p < n := by omega
      obtain ⟨x, hx⟩ : ∃ x, els[k]? = some x := ⟨_, List.getElem?_eq_getElem (by rw [HN.out]; omega)⟩
      obtain ⟨y, hy⟩ : ∃ y, els[p]? = some y := ⟨_, List.getElem?_eq_getElem (by rw [HN.out]; omega)⟩
      obtain ⟨b1, o1, rfl, hb1, hr1⟩ : ∃ b off, a = some ⟨b, off, none⟩ ∧ b < w.heap.size ∧ ∀ i x, els[i]? = some x → w.rangeAt b (off + i * 32) (x.map bv) := by rcases H.out.lay with e | e; omega; exact e
      have R1 : Hid _ := HK.out.range hb1 (fun h => h) (hr1 k x hx)
      have R2 : Hid _ := HK.out.range hb1 (fun h => h) (hr1 p y hy)
      have Lx : Hid (x.length = 32) := H.out.size x (List.mem_of_getElem? hx)
      have Ly : Hid (y.length = 32) := H.out.size y (List.mem_of_getElem? hy)
      have L1 : Hid ((x.map bv).length = 32) := by show (x.map bv).length = 32; rw [List.length_map, Lx.out]
      have L2 : Hid ((y.map bv).length = 32) := by show (y.map bv).length = 32; rw [List.length_map, Ly.out]
      have Hx : Hid _ := hx
      have Hy : Hid _ := hy
      have Hp : Hid (k = p + 1) := hp
      have hrng := IdL.cmpL_rng y x
      have hc : ∀ W, Calls Try.prog 87 #[idv y, idv x] W fun e w' => e = .returned (.int .i64 (IdL.cmpL y x)) ∧ Keep (fun _ => False) W w' := fun W => (compare_any W y x Ly.out Lx.out).mono fun _ _ h => ⟨h.1, h.2.keep⟩
      have Hlt : Hid (IdL.cmpL y x = IdL.cmpL y x) := rfl
      obtain ⟨r, hr⟩ : ∃ r, IdL.cmpL y x = r := ⟨_, rfl⟩
      have HR : Hid (IdL.cmpL y x = r) := hr
      rw [hr] at hc hrng
      clear hr1 hx hy hp hr Hlt
      by_cases hr0 : r < 0
      · go_wp2
        refine Txt.wp_region_text (fun _ => True) [0, 0, 0, 0, 1, 0, 0, 0, 1, 4, 0] (by kernel_rfl) (by kernel_rfl) trivial ?_
        repeat (first
          | (refine Txt.tl_pure (v := ?_) (by rfl) ?_ ?_; rotate_left; (focus (intro _; go_simp; try with_reducible rfl)); simp only [Act.put, List.setIfInBounds_toArray, List.set_cons_zero, List.set_cons_succ])
          | (refine Txt.tl_skip (by rfl) trivial ?_; simp only [Act.put, List.setIfInBounds_toArray, List.set_cons_zero, List.set_cons_succ])
          | (refine Txt.tl_load (v := ?_) (by rfl) (by rfl) (by rfl) (by kernel_rfl) ?_ ?_; rotate_left; (focus (first | assumption | (go_simp; done) | (go_simp; with_reducible rfl))); simp only [Act.put, List.setIfInBounds_toArray, List.set_cons_zero, List.set_cons_succ])
          | (refine Txt.tl_alloc (by rfl) ?_; go_simp; refine ⟨by (first | exact Txt.Le.alloc_drew _ _ | exact Txt.Le.alloc _ _), ?_⟩))
        refine Txt.tl_loadRow (by rfl) (by rfl) (by rfl) R2.out (by rw [L2.out]; kernel_rfl) ?_
        simp only [Act.put, List.setIfInBounds_toArray, List.set_cons_zero, List.set_cons_succ]
        repeat (first
          | (refine Txt.tl_pure (v := ?_) (by rfl) ?_ ?_; rotate_left; (focus (intro _; go_simp; try with_reducible rfl)); simp only [Act.put, List.setIfInBounds_toArray, List.set_cons_zero, List.set_cons_succ])
          | (refine Txt.tl_skip (by rfl) trivial ?_; simp only [Act.put, List.setIfInBounds_toArray, List.set_cons_zero, List.set_cons_succ])
          | (refine Txt.tl_load (v := ?_) (by rfl) (by rfl) (by rfl) (by kernel_rfl) ?_ ?_; rotate_left; (focus (first | assumption | (go_simp; done) | (go_simp; with_reducible rfl))); simp only [Act.put, List.setIfInBounds_toArray, List.set_cons_zero, List.set_cons_succ])
          | (refine Txt.tl_alloc (by rfl) ?_; go_simp; refine ⟨by (first | exact Txt.Le.alloc_drew _ _ | exact Txt.Le.alloc _ _), ?_⟩))
        refine Txt.tl_loadRow (by rfl) (by rfl) (by rfl) R1.out (by rw [L1.out]; kernel_rfl) ?_
        simp only [Act.put, List.setIfInBounds_toArray, List.set_cons_zero, List.set_cons_succ]
        refine Txt.tl_call Try.func87 (by kernel_rfl) (by kernel_rfl) (by rfl) (by rfl) (by rfl) (hc _) ?_
        rintro e w2 ⟨rfl, h2⟩
        have K2 : Hid (Keep (fun _ => False) _ w2) := h2
        clear h2
        refine ⟨_, rfl, trivial, ?_⟩
        simp only [Act.put, List.setIfInBounds_toArray, List.set_cons_zero, List.set_cons_succ]
        (repeat (first | (refine Txt.tl_pure (v := ?_) (by rfl) ?_ ?_; rotate_left; (focus (intro _; go_simp; try with_reducible rfl)); simp only [Act.put, List.setIfInBounds_toArray, List.set_cons_zero, List.set_cons_succ]) | (refine Txt.tl_skip (by rfl) (by first | trivial | exact HS.out) ?_; simp only [Act.put, List.setIfInBounds_toArray, List.set_cons_zero, List.set_cons_succ]) | (refine Txt.tl_load (v := ?_) (by rfl) (by rfl) (by rfl) (by kernel_rfl) ?_ ?_; rotate_left; (focus (first | assumption | (go_simp; done) | (go_simp; with_reducible rfl))); simp only [Act.put, List.setIfInBounds_toArray, List.set_cons_zero, List.set_cons_succ]) | (refine Txt.tl_loadB (v := ?_) (by rfl) (by rfl) (by rfl) (by kernel_rfl) ?_ ?_; rotate_left; (focus assumption); simp only [Act.put, List.setIfInBounds_toArray, List.set_cons_zero, List.set_cons_succ])))
        refine Txt.tl_nil ?_
        go_wp2
        go_roundw
        case rel =>
          refine ⟨k + 1, by omega, by omega, .inl (by omega), rfl, HK.out.drew.trans K2.out, ?_⟩
          have e1 := HS.out
          have e2 := Hx.out
          rw [Hp.out] at e1 e2 ⊢
          exact srt_take e1 Hy.out e2 (by rw [HR.out]; exact hr0)
        case measure => simp [intOf]; omega
      · have hr1 : 0 ≤ r := by omega
        go_wp2
        refine Txt.wp_region_text (fun _ => True) [0, 0, 0, 0, 1, 0, 0, 0, 1, 4, 0] (by kernel_rfl) (by kernel_rfl) trivial ?_
        repeat (first
          | (refine Txt.tl_pure (v := ?_) (by rfl) ?_ ?_; rotate_left; (focus (intro _; go_simp; try with_reducible rfl)); simp only [Act.put, List.setIfInBounds_toArray, List.set_cons_zero, List.set_cons_succ])
          | (refine Txt.tl_skip (by rfl) trivial ?_; simp only [Act.put, List.setIfInBounds_toArray, List.set_cons_zero, List.set_cons_succ])
          | (refine Txt.tl_load (v := ?_) (by rfl) (by rfl) (by rfl) (by kernel_rfl) ?_ ?_; rotate_left; (focus (first | assumption | (go_simp; done) | (go_simp; with_reducible rfl))); simp only [Act.put, List.setIfInBounds_toArray, List.set_cons_zero, List.set_cons_succ])
          | (refine Txt.tl_alloc (by rfl) ?_; go_simp; refine ⟨by (first | exact Txt.Le.alloc_drew _ _ | exact Txt.Le.alloc _ _), ?_⟩))
        refine Txt.tl_loadRow (by rfl) (by rfl) (by rfl) R2.out (by rw [L2.out]; kernel_rfl) ?_
        simp only [Act.put, List.setIfInBounds_toArray, List.set_cons_zero, List.set_cons_succ]
        repeat (first
          | (refine Txt.tl_pure (v := ?_) (by rfl) ?_ ?_; rotate_left; (focus (intro _; go_simp; try with_reducible rfl)); simp only [Act.put, List.setIfInBounds_toArray, List.set_cons_zero, List.set_cons_succ])
          | (refine Txt.tl_skip (by rfl) trivial ?_; simp only [Act.put, List.setIfInBounds_toArray, List.set_cons_zero, List.set_cons_succ])
          | (refine Txt.tl_load (v := ?_) (by rfl) (by rfl) (by rfl) (by kernel_rfl) ?_ ?_; rotate_left; (focus (first | assumption | (go_simp; done) | (go_simp; with_reducible rfl))); simp only [Act.put, List.setIfInBounds_toArray, List.set_cons_zero, List.set_cons_succ])
          | (refine Txt.tl_alloc (by rfl) ?_; go_simp; refine ⟨by (first | exact Txt.Le.alloc_drew _ _ | exact Txt.Le.alloc _ _), ?_⟩))
        refine Txt.tl_loadRow (by rfl) (by rfl) (by rfl) R1.out (by rw [L1.out]; kernel_rfl) ?_
        simp only [Act.put, List.setIfInBounds_toArray, List.set_cons_zero, List.set_cons_succ]
        refine Txt.tl_call Try.func87 (by kernel_rfl) (by kernel_rfl) (by rfl) (by rfl) (by rfl) (hc _) ?_
        rintro e w2 ⟨rfl, h2⟩
        have K2 : Hid (Keep (fun _ => False) _ w2) := h2
        clear h2
        refine ⟨_, rfl, trivial, ?_⟩
        simp only [Act.put, List.setIfInBounds_toArray, List.set_cons_zero, List.set_cons_succ]
        (repeat (first | (refine Txt.tl_pure (v := ?_) (by rfl) ?_ ?_; rotate_left; (focus (intro _; go_simp; try with_reducible rfl)); simp only [Act.put, List.setIfInBounds_toArray, List.set_cons_zero, List.set_cons_succ]) | (refine Txt.tl_skip (by rfl) (by first | trivial | exact HS.out) ?_; simp only [Act.put, List.setIfInBounds_toArray, List.set_cons_zero, List.set_cons_succ]) | (refine Txt.tl_load (v := ?_) (by rfl) (by rfl) (by rfl) (by kernel_rfl) ?_ ?_; rotate_left; (focus (first | assumption | (go_simp; done) | (go_simp; with_reducible rfl))); simp only [Act.put, List.setIfInBounds_toArray, List.set_cons_zero, List.set_cons_succ]) | (refine Txt.tl_loadB (v := ?_) (by rfl) (by rfl) (by rfl) (by kernel_rfl) ?_ ?_; rotate_left; (focus assumption); simp only [Act.put, List.setIfInBounds_toArray, List.set_cons_zero, List.set_cons_succ])))
        refine Txt.tl_nil ?_
        go_wp2
        go_ret
        refine ⟨⟨false, rfl, ⟨fun h => absurd h (by decide), fun h => ?_⟩⟩, HK.out.drew.trans K2.out⟩
        have e2 := Hx.out
        rw [Hp.out] at e2
        have := IdL.srt_next h Hy.out e2
        rw [HR.out] at this
        omega
    · have e : els.take k = els := List.take_of_length_le (by rw [HN.out]; omega)
      have HS2 : Hid (IdL.Srt els) := by show IdL.Srt els; rw [← e]; exact HS.out
      clear e
      go_wp2
      go_ret
      exact ⟨⟨true, rfl, fun _ => HS2.out, fun _ => rfl⟩, HK.out⟩
end Ids
end Go.Proofs.Ytgpimeobkacniaa


namespace Go.Proofs.Ytgpimeobkacniaa
open Go.RowKit
namespace Ids
open Oct
theorem zc_size (m : Nat) : (Builtin.zeroCells z32 m).size = m * 32 := by
  have := zeroCells_len m
  rwa [Array.length_toList] at this
theorem New.trans {w w1 w2 : World} {v v2 : Value} {els els2 : List (List UInt8)} (h : New w w1 v els) (k1 : Keep (fun k => v.ownBlock = some k) w1 w2) (h2 : Own w2 v2 els2) (e : v2.ownBlock = v.ownBlock ∨ v2.ownBlock = some w1.heap.size) : New w w2 v2 els2 := by
  obtain ⟨_, k, f⟩ := h
  have := k.size
  refine ⟨h2, k.trans' k1 (fun _ _ h => h) (fun x hx hs => by have := f x hs; omega), fun x hx => ?_⟩
  rcases e with e | e
  · exact f x (by rw [← e]; exact hx)
  · rw [e] at hx
    have := Option.some.inj hx
    omega
theorem New.from {w0 w w1 : World} {v : Value} {els : List (List UInt8)} (h : New w w1 v els) (k : Keep (fun _ => False) w0 w) : New w0 w1 v els :=
  ⟨h.1, k.trans h.2.1, fun x hx => Nat.le_trans k.size (h.2.2 x hx)⟩
theorem New.calm {w w1 w2 : World} {v : Value} {els : List (List UInt8)} (h : New w w1 v els) (k : Keep (fun _ => False) w1 w2) : New w w2 v els :=
  ⟨h.1.keep k (fun _ _ h => h), h.2.1.trans k, h.2.2⟩
theorem Own.any {w : World} {v : Value} {els : List (List UInt8)} (h : Own w v els) : ∃ a n c, v = .slice a n c ∧ At w a n els ∧ Hid (n = els.length) := by
  obtain ⟨a, c, e, h1, _⟩ := h.at
  exact ⟨a, _, c, e, h1, (rfl : els.length = els.length)⟩
set_option maxRecDepth 100000 in
set_option maxHeartbeats 1000000 in
theorem grow_nil (w : World) (n : Nat) (hn : n ≤ 1000000) : Calls Try.prog 130 #[.slice none 0 0, .int .i64 n] w fun e w' => ∃ v, e = .returned v ∧ New w w' v [] := by
  by_cases h0 : n = 0
  · subst h0
    go_enter Try.func130, Try.ntmps130
    go_wp2
    go_ret
    exact ⟨_, rfl, Own.nil _, Keep.refl _ _, fun k hk => by simp [Value.ownBlock] at hk⟩
  · obtain ⟨i, hi, hz, hs, hby⟩ := slId.info
    have hr := fun ty => Lib.run_append_nil_zeros (P := Try.prog) w 29 3 ty 35 i (.agg z32) .i64 .i64 Try.underlying29 Try.underlying3 hi hz n (by omega) (by rw [hs]; omega) (by omega) (by rw [hby]; omega)
    have hge := grownCap_ge w n 0 35
    have hcm := grownCap_le_maxLen w n 0 35 (by unfold maxLen; omega)
    generalize grownCap w n 0 35 = C at hr hge hcm
    have HR : Hid _ := hr
    have hO : Own (w.drew.alloc (.cells (Builtin.zeroCells z32 n ++ Builtin.zeroCells z32 (C - n)) 35)) (.slice (some ⟨w.heap.size, 0, none⟩) 0 C) [] := by
      refine Own.of rfl (by simp) (heap_alloc_new w.drew _) (Nat.zero_le _) hcm ?_ (by simp)
      rw [Array.size_append, zc_size, zc_size, ← Nat.add_mul]
      congr 1; omega
    have O1 : Hid _ := hO
    clear hr hO hi hz hs hby hcm
    have hn1 : ¬ ((n : Int) < 0) := by omega
    have hn0 : (0 : Int) < n := by omega
    clear h0
    go_enter Try.func130, Try.ntmps130
    go_wp2_with (at_builtin; refine Lib.wpList_append_run _ rfl _ _ _ _ rfl _ _ rfl rfl _ _ (HR.out _) ?_; simp only [Act.put, List.setIfInBounds_toArray, List.set_cons_zero, List.set_cons_succ])
    go_ret
    exact ⟨_, rfl, O1.out, (Keep.refl _ _).drew.alloc _, fun k hk => by have e : w.heap.size = k := Option.some.inj hk; omega⟩
set_option maxRecDepth 100000 in
set_option maxHeartbeats 2000000 in
theorem concat2 (w : World) (b n c n2 c2 : Nat) (a a2 : Option Addr) (l l2 : List (List UInt8)) (hb : w.heap[b]? = some (.cells #[.slice a n c, .slice a2 n2 c2] 29 (0, 0))) (h1 : At w a n l) (h2 : At w a2 n2 l2) (hm : n + n2 ≤ 100000) :
    Calls Try.prog 115 #[.slice (some ⟨b, 0, none⟩) 2 2] w fun e w' => ∃ v, e = .returned v ∧ New w w' v (l ++ l2) := by
  have HB : Hid _ := hb
  have H1 : Hid (At w a n l) := h1
  have H2 : Hid (At w a2 n2 l2) := h2
  have hc0 : w.cell? ⟨b, 0, none⟩ = some (.slice a n c) := by rw [cell_of hb]; rfl
  have hc1 : w.cell? ⟨b, 1, none⟩ = some (.slice a2 n2 c2) := by rw [cell_of hb]; rfl
  have hl1 : Hid (l.length = n) := h1.len
  have hl2 : Hid (l2.length = n2) := h2.len
  clear hb h1 h2
  have hg : Hid (Calls Try.prog 130 #[.slice none 0 0, .int .i64 ((n : Int) + (n2 : Int))] w fun e w' => ∃ v, e = .returned v ∧ New w w' v []) := by
    show Calls _ _ _ _ _
    have := grow_nil w (n + n2) (by omega)
    push_cast at this
    exact this
  go_enter Try.func115, Try.ntmps115
  go_wp2
  refine wp_loop_rounds 3 ?_
  (repeat any_goals (rw [rounds_succ]; go_wp2_with (go_at_call 130; refine hg.out.mono ?_; rintro e w1 ⟨v, rfl, h1⟩; have N1 : Hid (New w w1 v []) := h1; have hd0 : w1.cell? ⟨b, 0, none⟩ = some (.slice a n c) := (by rw [cell_of (h1.2.1.get HB.out (fun h => h))]; rfl); have hd1 : w1.cell? ⟨b, 1, none⟩ = some (.slice a2 n2 c2) := (by rw [cell_of (h1.2.1.get HB.out (fun h => h))]; rfl); clear h1)))
  refine wp_loop_rounds 3 ?_
  have A1 : Hid (At w1 a n l) := H1.out.calm N1.out.2.1
  have A2 : Hid (At w1 a2 n2 l2) := H2.out.calm N1.out.2.1
  (repeat any_goals (rw [rounds_succ]; go_wp2_with (first | (refine wl_appR rfl rfl rfl N1.out.1 rfl A1.out (by simp; omega) ?_; intro v2 w2 h1 h2 h3; have N2 : Hid (New w w2 v2 l) := (by have := N1.out.trans h2 h1 h3; exact this); have A2 : Hid (At w2 a2 n2 l2) := H2.out.calm N2.out.2.1; have hd1 : w2.cell? ⟨b, 1, none⟩ = some (.slice a2 n2 c2) := (by rw [cell_of (N2.out.2.1.get HB.out (fun h => h))]; rfl); clear h1 h2 h3; simp only [Act.put, List.setIfInBounds_toArray, List.set_cons_zero, List.set_cons_succ]) | (refine wl_appR rfl rfl rfl N2.out.1 rfl A2.out (by have := hl1.out; omega) ?_; intro v3 w3 h1 h2 h3; have N3 : Hid (New w w3 v3 (l ++ l2)) := (by have := N2.out.trans h2 h1 h3; exact this); clear h1 h2 h3; simp only [Act.put, List.setIfInBounds_toArray, List.set_cons_zero, List.set_cons_succ]))))
  go_ret
  exact ⟨v3, rfl, N3.out⟩
end Ids
end Go.Proofs.Ytgpimeobkacniaa


namespace Go.Proofs.Ytgpimeobkacniaa
open Go.RowKit
namespace Ids
open Oct
section
variable {P : Program} {ops : Array Oper} {rest : List Oper} {o : Oper} {a : Act} {w : World} {K : Act → World → Prop} {Q : Exit → Act → World → Prop}
theorem wp_move {x : Operand} (ho : o.op = .move x ∨ o.op = .assign x) (h : K (a.put o.dst (a.eval x)) w) : o.wp P a w K Q := by
  unfold Oper.wp execOp
  rcases ho with ho | ho <;> simp only [ho, Sem.run_pure] <;> exact h
theorem wp_load {x : Operand} (ho : o.op = .load 35 x) {b i : Nat} (hx : a.eval x = .pointer (some ⟨b, i, none⟩)) {l : List UInt8} (hl : l.length = 32) (hr : w.rangeAt b i (l.map bv))
    (h : K (a.put o.dst (idv l)) w) : o.wp Try.prog a w K Q :=
  wp_load_mid _ x ho b i hx (l.map bv) _ hr Try.underlying35 rfl (by rw [info32, List.length_map, hl]) h
end
theorem Own.flat {w : World} {v : Value} {els : List (List UInt8)} (h : Own w v els) (n : Nat) (hn : els.length = n) (hm : n ≤ 100000) : els.length ≤ 1000000 := by omega
end Ids
end Go.Proofs.Ytgpimeobkacniaa


namespace Go.Proofs.Ytgpimeobkacniaa
open Go.RowKit
namespace Ids
open Oct
/-- What is asked of a comparison with a target: of each id it tells what 'cf' says. -/
def CmpT (w : World) (g : Nat) (bs ls : Array Value) (t : List UInt8) (cf : List UInt8 → Int) : Prop :=
  ∀ (w1 : World) (x : List UInt8), Keep (fun _ => False) w w1 → x.length = 32 → Calls Try.prog g (bs ++ #[idv x, idv t] ++ ls) w1 fun e w2 => e = .returned (.int .i64 (cf x)) ∧ Keep (fun _ => False) w1 w2
/-- Where it is found, or would stand. -/
def Found (cf : List UInt8 → Int) (els : List (List UInt8)) (i : Nat) (b : Bool) : Prop :=
  i ≤ els.length ∧ (∀ (j : Nat) (y : List UInt8), j < i → els[j]? = some y → cf y < 0) ∧ (∀ (j : Nat) (y : List UInt8), i ≤ j → els[j]? = some y → 0 ≤ cf y) ∧ (b = true ↔ ∃ y, els[i]? = some y ∧ cf y = 0)
theorem compare_eg : ∀ args w, (callFunc 87 args).run Try.prog w = .ok (.enter 87 args) w := enters_of Try.func87 (by kernel_rfl) rfl
theorem compare_cmpT (w : World) (t : List UInt8) (ht : t.length = 32) : CmpT w 87 #[] #[] t (fun x => IdL.cmpL x t) :=
  fun w1 x _ hx => (compare_any w1 x t hx ht).mono fun e w2 ⟨he, hl⟩ => ⟨he, hl.keep⟩
theorem srt_mono {els : List (List UInt8)} (h : IdL.Srt els) (t : List UInt8) (i j : Nat) (x y : List UInt8) (hij : i ≤ j) (hx : els[i]? = some x) (hy : els[j]? = some y) (hc : IdL.cmpL y t < 0) : IdL.cmpL x t < 0 := by
  rcases Nat.lt_or_ge i j with h1 | h1
  · obtain ⟨hi, rfl⟩ := List.getElem?_eq_some_iff.1 hx
    obtain ⟨hj, rfl⟩ := List.getElem?_eq_some_iff.1 hy
    exact IdL.cmpL_trans _ _ _ (List.pairwise_iff_getElem.1 h i j hi hj h1) hc
  · obtain rfl : i = j := by omega
    rw [hx] at hy
    rw [Option.some.inj hy]; exact hc
theorem found_mem {els : List (List UInt8)} (h : IdL.Srt els) {t : List UInt8} {i : Nat} {b : Bool} (hf : Found (fun x => IdL.cmpL x t) els i b) : b = decide (t ∈ els) := by
  obtain ⟨h1, h2, h3, h4⟩ := hf
  rw [Bool.eq_iff_iff, h4, decide_eq_true_eq]
  constructor
  · rintro ⟨y, hy, hc⟩
    have := IdL.cmpL_zero _ _ hc
    subst this
    exact List.mem_of_getElem? hy
  · intro hm
    obtain ⟨k, hk, rfl⟩ := List.getElem_of_mem hm
    have hkk := List.getElem?_eq_getElem hk
    rcases Nat.lt_trichotomy k i with e | e | e
    · have := h2 k _ e hkk
      exact absurd this (by simp only [IdL.cmpL_refl]; omega)
    · subst e
      exact ⟨_, hkk, IdL.cmpL_refl _⟩
    · have hi : i < els.length := by omega
      have h5 := h3 i _ (Nat.le_refl _) (List.getElem?_eq_getElem hi)
      have h6 := List.pairwise_iff_getElem.1 h i k hi hk e
      simp only at h5
      omega
theorem Own.any' {w : World} {v : Value} {els : List (List UInt8)} (h : Own w v els) : ∃ a n c, v = .slice a n c ∧ At w a n els ∧ Hid (n = els.length) ∧ ∀ b off, a = some ⟨b, off, none⟩ → b < w.heap.size := by
  obtain ⟨a, c, e, h1, h2⟩ := h.at
  exact ⟨a, _, c, e, h1, (rfl : els.length = els.length), fun b off e => h.lt (h2 b off e)⟩
end Ids
end Go.Proofs.Ytgpimeobkacniaa
