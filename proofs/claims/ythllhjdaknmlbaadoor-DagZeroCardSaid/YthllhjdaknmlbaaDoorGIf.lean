/-
  slices.IndexFunc, ContainsFunc, DeleteFunc at ids; ident's member. slices.DeleteFunc at a row of ids of one's own. ident.Has, Without. ident.Is: does it rise? slices.Grow of nil, slices.Concat of two rows of ids, ident.Both. ident.With. slices.BinarySearchFunc at ids; ident.Less.
-/
import Derived.Test.YthllhjdaknmlbaaDoorGSr
import Derived.Test.YthllhjdaknmlbaaDoorGSt
import Derived.Lib.AppendZeros
import Derived.Handy
import Derived.Test.YthllhjdaknmlbaaDoorGTx
set_option linter.unusedVariables false
set_option linter.unusedSimpArgs false

namespace Go.Proofs.YthllhjdaknmlbaaDoor
open Go.RowKit
namespace Ids
open Oct
/-- The first that is so. -/
def idxL (p : List UInt8 → Bool) (l : List (List UInt8)) : Int := match l.findIdx? p with | some i => (i : Int) | none => -1
theorem idxL_some {p : List UInt8 → Bool} {l : List (List UInt8)} {k : Nat} {x : List UInt8} (hx : l[k]? = some x) (hp : p x = true) (hb : ∀ (j : Nat) (y : List UInt8), j < k → l[j]? = some y → p y = false) : idxL p l = k := by
  have hk := (List.getElem?_eq_some_iff.1 hx).1
  have : l.findIdx? p = some k := by
    rw [List.findIdx?_eq_some_iff_getElem]
    refine ⟨hk, ?_, fun j hj => ?_⟩
    · rw [(List.getElem?_eq_some_iff.1 hx).2]; exact hp
    · have := hb j _ hj (List.getElem?_eq_getElem (by omega))
      rw [this]; decide
  unfold idxL
  rw [this]
theorem idxL_none {p : List UInt8 → Bool} {l : List (List UInt8)} (hb : ∀ (j : Nat) (y : List UInt8), j < l.length → l[j]? = some y → p y = false) : idxL p l = -1 := by
  have : l.findIdx? p = none := by
    rw [List.findIdx?_eq_none_iff]
    intro x hx
    obtain ⟨i, hi, rfl⟩ := List.getElem_of_mem hx
    exact hb i _ hi (List.getElem?_eq_getElem hi)
  unfold idxL
  rw [this]
/-- What is asked of a function value: it tells of each id what 'p' says, in whatever world stands behind this one. -/
def Tells (S : Nat → Prop) (w : World) (g : Nat) (bs ls : Array Value) (p : List UInt8 → Bool) : Prop :=
  ∀ (w1 : World) (x : List UInt8), Keep S w w1 → x.length = 32 → Calls Tryd.prog g (bs.push (idv x) ++ ls) w1 fun e w2 => e = .returned (.bool (p x)) ∧ Keep (fun _ => False) w1 w2
set_option maxRecDepth 100000 in
set_option maxHeartbeats 1000000 in
theorem index_any (w : World) (a : Option Addr) (n c : Nat) (els : List (List UInt8)) (h : At w a n els) (hm : n ≤ 1000000) (g : Nat) (bs ls : Array Value) (p : List UInt8 → Bool)
    (eg : ∀ args w, (callFunc g args).run Tryd.prog w = .ok (.enter g args) w) (hp : Tells (fun _ => False) w g bs ls p) :
    Calls Tryd.prog 35 #[.slice a n c, .func (.func g) bs ls] w fun e w' => e = .returned (.int .i64 (idxL p els)) ∧ Keep (fun _ => False) w w' := by
  have H : Hid _ := h
  have HP : Hid (Tells (fun _ => False) w g bs ls p) := hp
  have HN : Hid (els.length = n) := h.len
  clear h hp
  go_enter Tryd.func35, Tryd.ntmps35
  go_wp2
  go_loopw [8] (fun i wr => ∃ k : Nat, k ≤ n ∧ i = .int .i64 k ∧ Keep (fun _ => False) w wr ∧ (∀ (j : Nat) (y : List UInt8), j < k → els[j]? = some y → p y = false)) (fun i _ => n - (intOf i).toNat)
  case atStart => exact ⟨0, Nat.zero_le _, rfl, Keep.refl _ _, fun j y hj => absurd hj (Nat.not_lt_zero _)⟩
  case round =>
    obtain ⟨k, hk, rfl, hkp, hb⟩ := hrel
    have HK : Hid _ := hkp
    have HB : Hid _ := hb
    clear hkp hb
    by_cases hlt : k < n
    · obtain ⟨x, hx⟩ : ∃ x, els[k]? = some x := ⟨_, List.getElem?_eq_getElem (by rw [HN.out]; omega)⟩
      obtain ⟨b1, o1, rfl, hb1, hr1⟩ : ∃ b off, a = some ⟨b, off, none⟩ ∧ b < w.heap.size ∧ ∀ i x, els[i]? = some x → w.rangeAt b (off + i * 32) (x.map bv) := by rcases H.out.lay with e | e; omega; exact e
      have R1 : Hid _ := HK.out.range hb1 (fun h => h) (hr1 k x hx)
      have Lx : Hid (x.length = 32) := H.out.size x (List.mem_of_getElem? hx)
      have Hx : Hid _ := hx
      have hc : Hid (Calls Tryd.prog g (bs.push (idv x) ++ ls) wr fun e w2 => e = .returned (.bool (p x)) ∧ Keep (fun _ => False) wr w2) := HP.out wr x HK.out Lx.out
      clear hr1 hx
      by_cases hpx : p x = true
      · have HPX : Hid _ := hpx
        rw [hpx] at hc
        clear hpx
        go_wp2_with (first | (refine wl_load rfl rfl rfl Lx.out R1.out ?_; simp only [Act.put, List.setIfInBounds_toArray, List.set_cons_zero, List.set_cons_succ]) | (go_at_fn g; refine hc.out.mono ?_; rintro e w2 ⟨rfl, h2⟩; have K2 : Hid _ := h2; clear h2))
        go_ret
        exact ⟨by rw [idxL_some Hx.out HPX.out HB.out]; rfl, HK.out.trans K2.out⟩
      · have hpf : p x = false := by simpa using hpx
        have HPX : Hid _ := hpf
        rw [hpf] at hc
        clear hpx hpf
        go_wp2_with (first | (refine wl_load rfl rfl rfl Lx.out R1.out ?_; simp only [Act.put, List.setIfInBounds_toArray, List.set_cons_zero, List.set_cons_succ]) | (go_at_fn g; refine hc.out.mono ?_; rintro e w2 ⟨rfl, h2⟩; have K2 : Hid _ := h2; clear h2))
        go_roundw
        case rel =>
          refine ⟨k + 1, by omega, rfl, HK.out.trans K2.out, fun j y hj hy => ?_⟩
          rcases Nat.lt_or_ge j k with h1 | h1
          · exact HB.out j y h1 hy
          · obtain rfl : j = k := by omega
            rw [Hx.out] at hy
            rw [← Option.some.inj hy]
            exact HPX.out
        case measure => simp [intOf]; omega
    · obtain rfl : k = n := by omega
      go_wp2
      go_ret
      exact ⟨by rw [idxL_none (by rw [HN.out]; exact HB.out)]; rfl, HK.out⟩
end Ids
end Go.Proofs.YthllhjdaknmlbaaDoor


namespace Go.Proofs.YthllhjdaknmlbaaDoor
open Go.RowKit
namespace Ids
open Oct
theorem Tells.less {S T : Nat → Prop} {w : World} {g : Nat} {bs ls : Array Value} {p : List UInt8 → Bool} (h : Tells S w g bs ls p) (hs : ∀ k, k < w.heap.size → T k → S k) : Tells T w g bs ls p :=
  fun w1 x k1 hx => h w1 x (k1.mono hs) hx
theorem filter_take {p : List UInt8 → Bool} {l : List (List UInt8)} {j : Nat} {x : List UInt8} (hx : l[j]? = some x) : (l.take (j + 1)).filter p = (l.take j).filter p ++ (if p x then [x] else []) := by
  rw [IdL.take_snoc hx, List.filter_append]
  simp only [List.filter_cons, List.filter_nil]
theorem filter_all {p : List UInt8 → Bool} {l : List (List UInt8)} (h : ∀ (j : Nat) (y : List UInt8), l[j]? = some y → p y = true) : l.filter p = l := by
  rw [List.filter_eq_self]
  intro x hx
  obtain ⟨i, hi, rfl⟩ := List.getElem_of_mem hx
  exact h i _ (List.getElem?_eq_getElem hi)
theorem idxL_cases (p : List UInt8 → Bool) (l : List (List UInt8)) : (idxL p l = -1 ∧ ∀ (j : Nat) (y : List UInt8), l[j]? = some y → p y = false) ∨ ∃ (i : Nat) (x : List UInt8), idxL p l = i ∧ l[i]? = some x ∧ p x = true ∧ ∀ (j : Nat) (y : List UInt8), j < i → l[j]? = some y → p y = false := by
  cases hf : l.findIdx? p with
  | none =>
    left
    refine ⟨by unfold idxL; rw [hf], fun j y hj => ?_⟩
    rw [List.findIdx?_eq_none_iff] at hf
    exact hf y (List.mem_of_getElem? hj)
  | some i =>
    right
    rw [List.findIdx?_eq_some_iff_getElem] at hf
    obtain ⟨hi, h1, h2⟩ := hf
    have hx : l[i]? = some l[i] := List.getElem?_eq_getElem hi
    have hb : ∀ (j : Nat) (y : List UInt8), j < i → l[j]? = some y → p y = false := fun j y hj hy => by
      have := h2 j hj
      rw [(List.getElem?_eq_some_iff.1 hy).2] at this
      simpa using this
    exact ⟨i, l[i], idxL_some hx h1 hb, hx, h1, hb⟩
set_option maxRecDepth 100000 in
set_option maxHeartbeats 2000000 in
theorem delete_own (w : World) (g n c : Nat) (els : List (List UInt8)) (h : Own w (.slice (some ⟨g, 0, none⟩) n c) els) (hm : n ≤ 1000000) (f : Nat) (bs ls : Array Value) (p : List UInt8 → Bool)
    (eg : ∀ args w, (callFunc f args).run Tryd.prog w = .ok (.enter f args) w) (hp : Tells (fun k => k = g) w f bs ls p) :
    Calls Tryd.prog 23 #[.slice (some ⟨g, 0, none⟩) n c, .func (.func f) bs ls] w fun e w' =>
      ∃ n', e = .returned (.slice (some ⟨g, 0, none⟩) n' c) ∧ Own w' (.slice (some ⟨g, 0, none⟩) n' c) (els.filter fun x => !p x) ∧ Keep (fun k => k = g) w w' := by
  have hn := h.block.1
  have hnc := h.block.2.choose_spec.2.1
  have hg : g < w.heap.size := h.lt rfl
  obtain ⟨a, c', e, hat, _⟩ := h.at
  have hat' : At w (some ⟨g, 0, none⟩) n els := by cases e; rw [hn]; exact hat
  have hI := index_any w _ n c els hat' hm f bs ls p eg (hp.less (fun _ _ h => h.elim))
  have H : Hid _ := h
  have HP : Hid (Tells (fun k => k = g) w f bs ls p) := hp
  have HN : Hid (n = els.length) := hn
  clear h hp hat hat' e hn
  rcases idxL_cases p els with ⟨hix, hall⟩ | ⟨i, x0, hix, hx0, hp0, hbef⟩
  · rw [hix] at hI
    have e : (els.filter fun x => !p x) = els := filter_all fun j y hy => by rw [hall j y hy]; rfl
    rw [e]
    clear hall e hix
    go_enter Tryd.func23, Tryd.ntmps23
    go_wp2_with (go_at_call 35; refine hI.mono ?_; rintro e w1 ⟨rfl, h1⟩; have K1 : Hid (Keep (fun _ => False) w w1) := h1; clear h1)
    go_ret
    exact ⟨_, rfl, H.out.keep K1.out (fun _ _ h => h), K1.out.mono (fun _ _ h => h.elim)⟩
  · rw [hix] at hI
    have hin : i < n := by rw [HN.out]; exact (List.getElem?_eq_some_iff.1 hx0).1
    have HT0 : Hid (els.take i = (els.take (i + 1)).filter fun x => !p x) := by
      show els.take i = (els.take (i + 1)).filter fun x => !p x
      rw [filter_take hx0, hp0]
      simp only [Bool.not_true, Bool.false_eq_true, if_false, List.append_nil]
      refine (filter_all fun j y hy => ?_).symm
      have hj : j < i := by have := (List.getElem?_eq_some_iff.1 hy).1; rw [List.length_take] at this; omega
      rw [List.getElem?_take, if_pos hj] at hy
      rw [hbef j y hj hy]; rfl
    have hne : ((i : Int) == -1) = false := beq_eq_false_iff_ne.2 (by omega)
    clear hx0 hp0 hbef hix
    go_enter Tryd.func23, Tryd.ntmps23
    go_wp2_with (go_at_call 35; refine hI.mono ?_; rintro e w1 ⟨rfl, h1⟩; have K1 : Hid (Keep (fun _ => False) w w1) := h1; clear h1)
    clear hI
    go_loopw [5, 6] (fun s5 s6 wv => ∃ (m j : Nat) (ds : List (List UInt8)), s5 = .int .i64 m ∧ s6 = .int .i64 j ∧ m < j ∧ j ≤ n ∧ Own wv (.slice (some ⟨g, 0, none⟩) n c) ds ∧ ds.take m = (els.take j).filter (fun x => !p x) ∧ (∀ t, j ≤ t → ds[t]? = els[t]?) ∧ Keep (fun b => b = g) w wv) (fun _ s6 _ => n - (intOf s6).toNat)
    case atStart => exact ⟨i, i + 1, els, rfl, rfl, by omega, by omega, H.out.keep K1.out (fun _ _ h => h), HT0.out, fun _ _ => rfl, K1.out.mono (fun _ _ h => h.elim)⟩
    case round =>
      obtain ⟨m, j, ds, rfl, rfl, hmj, hj, ho, ht, hd, hkw⟩ := hrel
      have HO : Hid _ := ho
      have HT : Hid _ := ht
      have HD : Hid _ := hd
      have HKw : Hid _ := hkw
      have Hdn : Hid (n = ds.length) := ho.block.1
      clear ho ht hd hkw
      by_cases hlj : j < n
      · obtain ⟨x, hx⟩ : ∃ x, els[j]? = some x := ⟨_, List.getElem?_eq_getElem (by rw [← HN.out]; omega)⟩
        have hmn : m < n := by omega
        have R1 : Hid (wr.rangeAt g (j * 32) (x.map bv)) := HO.out.range (by rw [HD.out _ (by omega)]; exact hx)
        have Lx : Hid (x.length = 32) := H.out.size x (List.mem_of_getElem? hx)
        have Hx : Hid _ := hx
        have Ka : Hid (Keep (fun b => b = g) w (wr.alloc (.cells (x.map bv).toArray 24))) := HKw.out.alloc _
        have Oa : Hid (Own (wr.alloc (.cells (x.map bv).toArray 24)) (.slice (some ⟨g, 0, none⟩) n c) ds) := HO.out.keep ((Keep.refl (fun _ => False) wr).alloc _) (fun _ _ h => h)
        have Ra : Hid ((wr.alloc (.cells (x.map bv).toArray 24)).rangeAt wr.heap.size 0 (x.map bv)) := range_new wr _ _
        have hc : Hid (Calls Tryd.prog f (bs.push (idv x) ++ ls) (wr.alloc (.cells (x.map bv).toArray 24)) fun e w2 => e = .returned (.bool (p x)) ∧ Keep (fun _ => False) (wr.alloc (.cells (x.map bv).toArray 24)) w2) := HP.out _ x Ka.out Lx.out
        clear hx
        by_cases hpx : p x = true
        · have HPX : Hid _ := hpx
          rw [hpx] at hc
          clear hpx
          go_wp2_with (first | (refine wl_load rfl rfl rfl Lx.out R1.out ?_; simp only [Act.put, List.setIfInBounds_toArray, List.set_cons_zero, List.set_cons_succ]) | (refine wl_store_new rfl rfl rfl rfl rfl Lx.out rfl ?_) | (refine wl_load rfl rfl rfl Lx.out Ra.out ?_; simp only [Act.put, List.setIfInBounds_toArray, List.set_cons_zero, List.set_cons_succ]) | (go_at_fn f; refine hc.out.mono ?_; rintro e w2 ⟨rfl, h2⟩; have K2 : Hid _ := h2; clear h2))
          go_roundw
          case rel =>
            refine ⟨m, j + 1, ds, rfl, rfl, by omega, by omega, Oa.out.keep K2.out (fun _ _ h => h), ?_, fun t h => HD.out t (by omega), Ka.out.trans' K2.out (fun _ _ h => h) (fun _ _ h => h.elim)⟩
            rw [HT.out, filter_take Hx.out, HPX.out]
            simp
          case measure => simp [intOf]; omega
        · have hpf : p x = false := by simpa using hpx
          have HPX : Hid _ := hpf
          rw [hpf] at hc
          clear hpx hpf
          go_wp2_with (first | (refine wl_load rfl rfl rfl Lx.out R1.out ?_; simp only [Act.put, List.setIfInBounds_toArray, List.set_cons_zero, List.set_cons_succ]) | (refine wl_store_new rfl rfl rfl rfl rfl Lx.out rfl ?_) | (refine wl_load rfl rfl rfl Lx.out Ra.out ?_; simp only [Act.put, List.setIfInBounds_toArray, List.set_cons_zero, List.set_cons_succ]) | (go_at_fn f; refine hc.out.mono ?_; rintro e w2 ⟨rfl, h2⟩; have K2 : Hid _ := h2; have R2 : Hid (w2.rangeAt wr.heap.size 0 (x.map bv)) := h2.range (by simp) (fun h => h) Ra.out; have O2 : Hid (Own w2 (.slice (some ⟨g, 0, none⟩) n c) ds) := Oa.out.keep h2 (fun _ _ h => h); clear h2) | (refine wl_load rfl rfl rfl Lx.out R2.out ?_; simp only [Act.put, List.setIfInBounds_toArray, List.set_cons_zero, List.set_cons_succ]) | (refine wl_set rfl rfl rfl O2.out rfl hmn Lx.out rfl ?_; intro w3 h1 h2; have H3 : Hid _ := h1; have K3 : Hid _ := h2; clear h1 h2))
          go_roundw
          case rel =>
            refine ⟨m + 1, j + 1, ds.set m x, rfl, rfl, by omega, by omega, H3.out, ?_, fun t h => ?_, (Ka.out.trans' K2.out (fun _ _ h => h) (fun _ _ h => h.elim)).trans K3.out⟩
            · rw [filter_take Hx.out, HPX.out, ← HT.out, List.take_add_one, List.take_set_of_le (Nat.le_refl _), List.getElem?_set_self (by rw [← Hdn.out]; exact hmn)]
              rfl
            · rw [List.getElem?_set_ne (by omega)]
              exact HD.out t (by omega)
          case measure => simp [intOf]; omega
      · obtain rfl : j = n := by omega
        obtain ⟨w3, hcl, hown3, hkeep3⟩ := run_clear (k := m) (m := j - m) (c' := c - m) HO.out (by omega)
        have H3 : Hid _ := hown3
        have K3 : Hid _ := hkeep3
        have hmn : m ≤ j := by omega
        have e : els.take j = els := List.take_of_length_le (by rw [← HN.out]; exact Nat.le_refl _)
        have HT2 : Hid (ds.take m = els.filter fun x => !p x) := by show ds.take m = els.filter fun x => !p x; rw [HT.out, e]
        clear hown3 hkeep3 e
        go_wp2
        go_ret
        refine ⟨_, rfl, ?_, HKw.out.trans K3.out⟩
        rw [← HT2.out]
        exact H3.out
end Ids
end Go.Proofs.YthllhjdaknmlbaaDoor


namespace Go.Proofs.YthllhjdaknmlbaaDoor
open Go.RowKit
namespace Ids
open Oct
theorem idxL_ge (p : List UInt8 → Bool) (l : List (List UInt8)) : decide (0 ≤ idxL p l) = l.any p := by
  rcases idxL_cases p l with ⟨h1, h2⟩ | ⟨i, x, h1, h2, h3, _⟩
  · rw [h1]
    symm
    rw [show decide ((0 : Int) ≤ -1) = false from rfl, List.any_eq_false]
    intro x hx
    obtain ⟨i, hi, rfl⟩ := List.getElem_of_mem hx
    rw [h2 i _ (List.getElem?_eq_getElem hi)]; decide
  · rw [h1]
    symm
    rw [decide_eq_true (Int.natCast_nonneg i), List.any_eq_true]
    exact ⟨x, List.mem_of_getElem? h2, h3⟩
set_option maxRecDepth 100000 in
theorem delete_any (w : World) (v : Value) (els : List (List UInt8)) (h : Own w v els) (hm : els.length ≤ 1000000) (f : Nat) (bs ls : Array Value) (p : List UInt8 → Bool)
    (eg : ∀ args w, (callFunc f args).run Tryd.prog w = .ok (.enter f args) w) (hp : Tells (fun k => v.ownBlock = some k) w f bs ls p) :
    Calls Tryd.prog 23 #[v, .func (.func f) bs ls] w fun e w' =>
      ∃ v', e = .returned v' ∧ Own w' v' (els.filter fun x => !p x) ∧ v'.ownBlock = v.ownBlock ∧ Keep (fun k => v.ownBlock = some k) w w' := by
  rcases h.form with ⟨rfl, rfl⟩ | ⟨g, c, rfl⟩
  · have hI := index_any w none 0 0 [] ⟨rfl, by simp, Nat.zero_le _, .inl rfl⟩ (by omega) f bs ls p eg (hp.less (fun _ _ h => h.elim))
    rw [show idxL p [] = -1 from rfl] at hI
    have H : Hid _ := h
    clear h hp
    go_enter Tryd.func23, Tryd.ntmps23
    go_wp2_with (go_at_call 35; refine hI.mono ?_; rintro e w1 ⟨rfl, h1⟩; have K1 : Hid (Keep (fun _ => False) w w1) := h1; clear h1)
    go_ret
    exact ⟨_, rfl, Own.nil _, rfl, K1.out.mono (fun _ _ h => h.elim)⟩
  · refine (delete_own w g _ c els h hm f bs ls p eg (hp.less (fun k _ e => by simp [Value.ownBlock, e]))).mono ?_
    rintro e w' ⟨n', rfl, h1, h2⟩
    exact ⟨_, rfl, h1, rfl, h2.mono (fun k _ e => by simp [Value.ownBlock, e])⟩
end Ids
end Go.Proofs.YthllhjdaknmlbaaDoor


namespace Go.Proofs.YthllhjdaknmlbaaDoor
open Go.RowKit
namespace Ids
open Oct
theorem srt_take {l : List (List UInt8)} {k : Nat} {x y : List UInt8} (h : IdL.Srt (l.take (k + 1))) (hy : l[k]? = some y) (hx : l[k + 1]? = some x) (hlt : IdL.cmpL y x < 0) : IdL.Srt (l.take (k + 2)) := by
  refine IdL.srt_chain _ fun i a b ha hb => ?_
  rw [List.getElem?_take] at ha hb
  split at hb
  · rename_i h1
    rw [if_pos (by omega)] at ha
    by_cases e : i = k
    · subst e
      rw [hy] at ha
      rw [hx] at hb
      cases ha
      cases hb
      exact hlt
    · refine IdL.srt_next h (i := i) ?_ ?_
      · rw [List.getElem?_take, if_pos (by omega)]; exact ha
      · rw [List.getElem?_take, if_pos (by omega)]; exact hb
  · cases hb
set_option maxRecDepth 100000 in
set_option maxHeartbeats 2000000 in
theorem is_any (w : World) (a : Option Addr) (n c : Nat) (els : List (List UInt8)) (h : At w a n els) (hm : n ≤ 1000000) :
    Calls Tryd.prog 60 #[.slice a n c] w fun e w' => (∃ r : Bool, e = .returned (.bool r) ∧ (r = true ↔ IdL.Srt els)) ∧ Keep (fun _ => False) w w' := by
  have H : Hid _ := h
  have HN : Hid (els.length = n) := h.len
  have HS0 : Hid (IdL.Srt (els.take 1)) := by
    show IdL.Srt (els.take 1)
    rcases els with _ | ⟨x, l⟩
    · exact List.Pairwise.nil
    · exact List.pairwise_cons.2 ⟨by simp, List.Pairwise.nil⟩
  clear h
  go_enter Tryd.func60, Tryd.ntmps60
  go_wp2
  go_loopw [3] (fun i wr => ∃ k : Nat, 1 ≤ k ∧ k ≤ n + 1 ∧ (k ≤ n ∨ k = 1) ∧ i = .int .i64 k ∧ Keep (fun _ => False) w wr ∧ IdL.Srt (els.take k)) (fun i _ => n + 1 - (intOf i).toNat)
  case atStart => exact ⟨1, by omega, by omega, .inr rfl, rfl, Keep.refl _ _, HS0.out⟩
  case round =>
    obtain ⟨k, hk1, hk, hk2, rfl, hkp, hs⟩ := hrel
    have HK : Hid _ := hkp
    have HS : Hid (IdL.Srt (els.take k)) := hs
    clear hkp hs
    by_cases hlt : k < n
    · obtain ⟨p, hp⟩ : ∃ p, k = p + 1 := ⟨k - 1, by omega⟩
      have hwp : IntKind.i64.wrap ((k : Int) - 1) = (p : Int) := by simp [IntKind.wrap, IntKind.bits, IntKind.signed]; omega
      have hpn : p < n := by omega
      obtain ⟨x, hx⟩ : ∃ x, els[k]? = some x := ⟨_, List.getElem?_eq_getElem (by rw [HN.out]; omega)⟩
      obtain ⟨y, hy⟩ : ∃ y, els[p]? = some y := ⟨_, List.getElem?_eq_getElem (by rw [HN.out]; omega)⟩
      obtain ⟨b1, o1, rfl, hb1, hr1⟩ : ∃ b off, a = some ⟨b, off, none⟩ ∧ b < w.heap.size ∧ ∀ i x, els[i]? = some x → w.rangeAt b (off + i * 32) (x.map bv) := by rcases H.out.lay with e | e; omega; exact e
      have R1 : Hid _ := HK.out.range hb1 (fun h => h) (hr1 k x hx)
      have R2 : Hid _ := HK.out.range hb1 (fun h => h) (hr1 p y hy)
      have Lx : Hid (x.length = 32) := H.out.size x (List.mem_of_getElem? hx)
      have Ly : Hid (y.length = 32) := H.out.size y (List.mem_of_getElem? hy)
      have L1 : Hid ((x.map bv).length = 32) := by show (x.map bv).length = 32; rw [List.length_map, Lx.out]
      have L2 : Hid ((y.map bv).length = 32) := by show (y.map bv).length = 32; rw [List.length_map, Ly.out]
      have Hx : Hid _ := hx
      have Hy : Hid _ := hy
      have Hp : Hid (k = p + 1) := hp
      have hrng := IdL.cmpL_rng y x
      have hc : ∀ W, Calls Tryd.prog 57 #[idv y, idv x] W fun e w' => e = .returned (.int .i64 (IdL.cmpL y x)) ∧ Keep (fun _ => False) W w' := fun W => (compare_any W y x Ly.out Lx.out).mono fun _ _ h => ⟨h.1, h.2.keep⟩
      have Hlt : Hid (IdL.cmpL y x = IdL.cmpL y x) := rfl
      obtain ⟨r, hr⟩ : ∃ r, IdL.cmpL y x = r := ⟨_, rfl⟩
      have HR : Hid (IdL.cmpL y x = r) := hr
      rw [hr] at hc hrng
      clear hr1 hx hy hp hr Hlt
      by_cases hr0 : r < 0
      · go_wp2
        refine Txt.wp_region_text (fun _ => True) [0, 0, 0, 0, 1, 0, 0, 0, 1, 4, 0] (by kernel_rfl) (by kernel_rfl) trivial ?_
        repeat (first
          | (refine Txt.tl_pure (v := ?_) (by rfl) ?_ ?_; rotate_left; (focus (intro _; go_simp; try with_reducible rfl)); simp only [Act.put, List.setIfInBounds_toArray, List.set_cons_zero, List.set_cons_succ])
          | (refine Txt.tl_skip (by rfl) trivial ?_; simp only [Act.put, List.setIfInBounds_toArray, List.set_cons_zero, List.set_cons_succ])
          | (refine Txt.tl_load (v := ?_) (by rfl) (by rfl) (by rfl) (by kernel_rfl) ?_ ?_; rotate_left; (focus (first | assumption | (go_simp; done) | (go_simp; with_reducible rfl))); simp only [Act.put, List.setIfInBounds_toArray, List.set_cons_zero, List.set_cons_succ])
          | (refine Txt.tl_alloc (by rfl) ?_; go_simp; refine ⟨by (first | exact Txt.Le.alloc_drew _ _ | exact Txt.Le.alloc _ _), ?_⟩))
        refine Txt.tl_loadRow (by rfl) (by rfl) (by rfl) R2.out (by rw [L2.out]; kernel_rfl) ?_
        simp only [Act.put, List.setIfInBounds_toArray, List.set_cons_zero, List.set_cons_succ]
        repeat (first
          | (refine Txt.tl_pure (v := ?_) (by rfl) ?_ ?_; rotate_left; (focus (intro _; go_simp; try with_reducible rfl)); simp only [Act.put, List.setIfInBounds_toArray, List.set_cons_zero, List.set_cons_succ])
          | (refine Txt.tl_skip (by rfl) trivial ?_; simp only [Act.put, List.setIfInBounds_toArray, List.set_cons_zero, List.set_cons_succ])
          | (refine Txt.tl_load (v := ?_) (by rfl) (by rfl) (by rfl) (by kernel_rfl) ?_ ?_; rotate_left; (focus (first | assumption | (go_simp; done) | (go_simp; with_reducible rfl))); simp only [Act.put, List.setIfInBounds_toArray, List.set_cons_zero, List.set_cons_succ])
          | (refine Txt.tl_alloc (by rfl) ?_; go_simp; refine ⟨by (first | exact Txt.Le.alloc_drew _ _ | exact Txt.Le.alloc _ _), ?_⟩))
        refine Txt.tl_loadRow (by rfl) (by rfl) (by rfl) R1.out (by rw [L1.out]; kernel_rfl) ?_
        simp only [Act.put, List.setIfInBounds_toArray, List.set_cons_zero, List.set_cons_succ]
        refine Txt.tl_call Tryd.func57 (by kernel_rfl) (by kernel_rfl) (by rfl) (by rfl) (by rfl) (hc _) ?_
        rintro e w2 ⟨rfl, h2⟩
        have K2 : Hid (Keep (fun _ => False) _ w2) := h2
        clear h2
        refine ⟨_, rfl, trivial, ?_⟩
        simp only [Act.put, List.setIfInBounds_toArray, List.set_cons_zero, List.set_cons_succ]
        (repeat (first | (refine Txt.tl_pure (v := ?_) (by rfl) ?_ ?_; rotate_left; (focus (intro _; go_simp; try with_reducible rfl)); simp only [Act.put, List.setIfInBounds_toArray, List.set_cons_zero, List.set_cons_succ]) | (refine Txt.tl_skip (by rfl) (by first | trivial | exact HS.out) ?_; simp only [Act.put, List.setIfInBounds_toArray, List.set_cons_zero, List.set_cons_succ]) | (refine Txt.tl_load (v := ?_) (by rfl) (by rfl) (by rfl) (by kernel_rfl) ?_ ?_; rotate_left; (focus (first | assumption | (go_simp; done) | (go_simp; with_reducible rfl))); simp only [Act.put, List.setIfInBounds_toArray, List.set_cons_zero, List.set_cons_succ]) | (refine Txt.tl_loadB (v := ?_) (by rfl) (by rfl) (by rfl) (by kernel_rfl) ?_ ?_; rotate_left; (focus assumption); simp only [Act.put, List.setIfInBounds_toArray, List.set_cons_zero, List.set_cons_succ])))
        refine Txt.tl_nil ?_
        go_wp2
        go_roundw
        case rel =>
          refine ⟨k + 1, by omega, by omega, .inl (by omega), rfl, HK.out.drew.trans K2.out, ?_⟩
          have e1 := HS.out
          have e2 := Hx.out
          rw [Hp.out] at e1 e2 ⊢
          exact srt_take e1 Hy.out e2 (by rw [HR.out]; exact hr0)
        case measure => simp [intOf]; omega
      · have hr1 : 0 ≤ r := by omega
        go_wp2
        refine Txt.wp_region_text (fun _ => True) [0, 0, 0, 0, 1, 0, 0, 0, 1, 4, 0] (by kernel_rfl) (by kernel_rfl) trivial ?_
        repeat (first
          | (refine Txt.tl_pure (v := ?_) (by rfl) ?_ ?_; rotate_left; (focus (intro _; go_simp; try with_reducible rfl)); simp only [Act.put, List.setIfInBounds_toArray, List.set_cons_zero, List.set_cons_succ])
          | (refine Txt.tl_skip (by rfl) trivial ?_; simp only [Act.put, List.setIfInBounds_toArray, List.set_cons_zero, List.set_cons_succ])
          | (refine Txt.tl_load (v := ?_) (by rfl) (by rfl) (by rfl) (by kernel_rfl) ?_ ?_; rotate_left; (focus (first | assumption | (go_simp; done) | (go_simp; with_reducible rfl))); simp only [Act.put, List.setIfInBounds_toArray, List.set_cons_zero, List.set_cons_succ])
          | (refine Txt.tl_alloc (by rfl) ?_; go_simp; refine ⟨by (first | exact Txt.Le.alloc_drew _ _ | exact Txt.Le.alloc _ _), ?_⟩))
        refine Txt.tl_loadRow (by rfl) (by rfl) (by rfl) R2.out (by rw [L2.out]; kernel_rfl) ?_
        simp only [Act.put, List.setIfInBounds_toArray, List.set_cons_zero, List.set_cons_succ]
        repeat (first
          | (refine Txt.tl_pure (v := ?_) (by rfl) ?_ ?_; rotate_left; (focus (intro _; go_simp; try with_reducible rfl)); simp only [Act.put, List.setIfInBounds_toArray, List.set_cons_zero, List.set_cons_succ])
          | (refine Txt.tl_skip (by rfl) trivial ?_; simp only [Act.put, List.setIfInBounds_toArray, List.set_cons_zero, List.set_cons_succ])
          | (refine Txt.tl_load (v := ?_) (by rfl) (by rfl) (by rfl) (by kernel_rfl) ?_ ?_; rotate_left; (focus (first | assumption | (go_simp; done) | (go_simp; with_reducible rfl))); simp only [Act.put, List.setIfInBounds_toArray, List.set_cons_zero, List.set_cons_succ])
          | (refine Txt.tl_alloc (by rfl) ?_; go_simp; refine ⟨by (first | exact Txt.Le.alloc_drew _ _ | exact Txt.Le.alloc _ _), ?_⟩))
        refine Txt.tl_loadRow (by rfl) (by rfl) (by rfl) R1.out (by rw [L1.out]; kernel_rfl) ?_
        simp only [Act.put, List.setIfInBounds_toArray, List.set_cons_zero, List.set_cons_succ]
        refine Txt.tl_call Tryd.func57 (by kernel_rfl) (by kernel_rfl) (by rfl) (by rfl) (by rfl) (hc _) ?_
        rintro e w2 ⟨rfl, h2⟩
        have K2 : Hid (Keep (fun _ => False) _ w2) := h2
        clear h2
        refine ⟨_, rfl, trivial, ?_⟩
        simp only [Act.put, List.setIfInBounds_toArray, List.set_cons_zero, List.set_cons_succ]
        (repeat (first | (refine Txt.tl_pure (v := ?_) (by rfl) ?_ ?_; rotate_left; (focus (intro _; go_simp; try with_reducible rfl)); simp only [Act.put, List.setIfInBounds_toArray, List.set_cons_zero, List.set_cons_succ]) | (refine Txt.tl_skip (by rfl) (by first | trivial | exact HS.out) ?_; simp only [Act.put, List.setIfInBounds_toArray, List.set_cons_zero, List.set_cons_succ]) | (refine Txt.tl_load (v := ?_) (by rfl) (by rfl) (by rfl) (by kernel_rfl) ?_ ?_; rotate_left; (focus (first | assumption | (go_simp; done) | (go_simp; with_reducible rfl))); simp only [Act.put, List.setIfInBounds_toArray, List.set_cons_zero, List.set_cons_succ]) | (refine Txt.tl_loadB (v := ?_) (by rfl) (by rfl) (by rfl) (by kernel_rfl) ?_ ?_; rotate_left; (focus assumption); simp only [Act.put, List.setIfInBounds_toArray, List.set_cons_zero, List.set_cons_succ])))
        refine Txt.tl_nil ?_
        go_wp2
        go_ret
        refine ⟨⟨false, rfl, ⟨fun h => absurd h (by decide), fun h => ?_⟩⟩, HK.out.drew.trans K2.out⟩
        have e2 := Hx.out
        rw [Hp.out] at e2
        have := IdL.srt_next h Hy.out e2
        rw [HR.out] at this
        omega
    · have e : els.take k = els := List.take_of_length_le (by rw [HN.out]; omega)
      have HS2 : Hid (IdL.Srt els) := by show IdL.Srt els; rw [← e]; exact HS.out
      clear e
      go_wp2
      go_ret
      exact ⟨⟨true, rfl, fun _ => HS2.out, fun _ => rfl⟩, HK.out⟩
end Ids
end Go.Proofs.YthllhjdaknmlbaaDoor


namespace Go.Proofs.YthllhjdaknmlbaaDoor
open Go.RowKit
namespace Ids
open Oct
theorem zc_size (m : Nat) : (Builtin.zeroCells z32 m).size = m * 32 := by
  have := zeroCells_len m
  rwa [Array.length_toList] at this
theorem New.trans {w w1 w2 : World} {v v2 : Value} {els els2 : List (List UInt8)} (h : New w w1 v els) (k1 : Keep (fun k => v.ownBlock = some k) w1 w2) (h2 : Own w2 v2 els2) (e : v2.ownBlock = v.ownBlock ∨ v2.ownBlock = some w1.heap.size) : New w w2 v2 els2 := by
  obtain ⟨_, k, f⟩ := h
  have := k.size
  refine ⟨h2, k.trans' k1 (fun _ _ h => h) (fun x hx hs => by have := f x hs; omega), fun x hx => ?_⟩
  rcases e with e | e
  · exact f x (by rw [← e]; exact hx)
  · rw [e] at hx
    have := Option.some.inj hx
    omega
theorem New.from {w0 w w1 : World} {v : Value} {els : List (List UInt8)} (h : New w w1 v els) (k : Keep (fun _ => False) w0 w) : New w0 w1 v els :=
  ⟨h.1, k.trans h.2.1, fun x hx => Nat.le_trans k.size (h.2.2 x hx)⟩
theorem New.calm {w w1 w2 : World} {v : Value} {els : List (List UInt8)} (h : New w w1 v els) (k : Keep (fun _ => False) w1 w2) : New w w2 v els :=
  ⟨h.1.keep k (fun _ _ h => h), h.2.1.trans k, h.2.2⟩
theorem Own.any {w : World} {v : Value} {els : List (List UInt8)} (h : Own w v els) : ∃ a n c, v = .slice a n c ∧ At w a n els ∧ Hid (n = els.length) := by
  obtain ⟨a, c, e, h1, _⟩ := h.at
  exact ⟨a, _, c, e, h1, (rfl : els.length = els.length)⟩
end Ids
end Go.Proofs.YthllhjdaknmlbaaDoor


namespace Go.Proofs.YthllhjdaknmlbaaDoor
open Go.RowKit
namespace Ids
open Oct
section
variable {P : Program} {ops : Array Oper} {rest : List Oper} {o : Oper} {a : Act} {w : World} {K : Act → World → Prop} {Q : Exit → Act → World → Prop}
theorem wp_move {x : Operand} (ho : o.op = .move x ∨ o.op = .assign x) (h : K (a.put o.dst (a.eval x)) w) : o.wp P a w K Q := by
  unfold Oper.wp execOp
  rcases ho with ho | ho <;> simp only [ho, Sem.run_pure] <;> exact h
theorem wp_load {x : Operand} (ho : o.op = .load 24 x) {b i : Nat} (hx : a.eval x = .pointer (some ⟨b, i, none⟩)) {l : List UInt8} (hl : l.length = 32) (hr : w.rangeAt b i (l.map bv))
    (h : K (a.put o.dst (idv l)) w) : o.wp Tryd.prog a w K Q :=
  wp_load_mid _ x ho b i hx (l.map bv) _ hr Tryd.underlying24 rfl (by rw [info32, List.length_map, hl]) h
end
theorem Own.flat {w : World} {v : Value} {els : List (List UInt8)} (h : Own w v els) (n : Nat) (hn : els.length = n) (hm : n ≤ 100000) : els.length ≤ 1000000 := by omega
end Ids
end Go.Proofs.YthllhjdaknmlbaaDoor


namespace Go.Proofs.YthllhjdaknmlbaaDoor
open Go.RowKit
namespace Ids
open Oct
/-- What is asked of a comparison with a target: of each id it tells what 'cf' says. -/
def CmpT (w : World) (g : Nat) (bs ls : Array Value) (t : List UInt8) (cf : List UInt8 → Int) : Prop :=
  ∀ (w1 : World) (x : List UInt8), Keep (fun _ => False) w w1 → x.length = 32 → Calls Tryd.prog g (bs ++ #[idv x, idv t] ++ ls) w1 fun e w2 => e = .returned (.int .i64 (cf x)) ∧ Keep (fun _ => False) w1 w2
/-- Where it is found, or would stand. -/
def Found (cf : List UInt8 → Int) (els : List (List UInt8)) (i : Nat) (b : Bool) : Prop :=
  i ≤ els.length ∧ (∀ (j : Nat) (y : List UInt8), j < i → els[j]? = some y → cf y < 0) ∧ (∀ (j : Nat) (y : List UInt8), i ≤ j → els[j]? = some y → 0 ≤ cf y) ∧ (b = true ↔ ∃ y, els[i]? = some y ∧ cf y = 0)
set_option maxRecDepth 100000 in
set_option maxHeartbeats 4000000 in
theorem search_any (w : World) (a : Option Addr) (n c : Nat) (els : List (List UInt8)) (h : At w a n els) (hm : n ≤ 1000000) (t : List UInt8) (ht : t.length = 32) (g : Nat) (bs ls : Array Value) (cf : List UInt8 → Int)
    (eg : ∀ args w, (callFunc g args).run Tryd.prog w = .ok (.enter g args) w) (hp : CmpT w g bs ls t cf) (hmono : ∀ (i j : Nat) (x y : List UInt8), i ≤ j → els[i]? = some x → els[j]? = some y → cf y < 0 → cf x < 0) :
    Calls Tryd.prog 30 #[.slice a n c, idv t, .func (.func g) bs ls] w fun e w' => ∃ (i : Nat) (b : Bool), e = .returned (.tuple #[.int .i64 i, .bool b]) ∧ Found cf els i b ∧ Keep (fun _ => False) w w' := by
  have H : Hid (At w a n els) := h
  have HP : Hid (CmpT w g bs ls t cf) := hp
  have HM : Hid (∀ (i j : Nat) (x y : List UInt8), i ≤ j → els[i]? = some x → els[j]? = some y → cf y < 0 → cf x < 0) := hmono
  have HN : Hid (els.length = n) := h.len
  have Lt : Hid (t.length = 32) := ht
  have R0 : Hid ((w.alloc (.cells (t.map bv).toArray 24)).rangeAt w.heap.size 0 (t.map bv)) := range_new w _ _
  have K0 : Hid (Keep (fun _ => False) w (w.alloc (.cells (t.map bv).toArray 24))) := (Keep.refl _ _).alloc _
  have Z0 : Hid (w.heap.size < (w.alloc (.cells (t.map bv).toArray 24)).heap.size) := by show _ < _; simp
  clear h hp hmono ht
  go_enter Tryd.func30, Tryd.ntmps30
  go_wp2
  go_loopw [9, 10] (fun s9 s10 wr => ∃ lo hi : Nat, s9 = .int .i64 lo ∧ s10 = .int .i64 hi ∧ lo ≤ hi ∧ hi ≤ n ∧ Keep (fun _ => False) (w.alloc (.cells (t.map bv).toArray 24)) wr ∧ (∀ (j : Nat) (y : List UInt8), j < lo → els[j]? = some y → cf y < 0) ∧ (∀ (j : Nat) (y : List UInt8), hi ≤ j → els[j]? = some y → 0 ≤ cf y)) (fun s9 s10 _ => (intOf s10).toNat - (intOf s9).toNat)
  case atStart => exact ⟨0, n, rfl, rfl, Nat.zero_le _, Nat.le_refl _, Keep.refl _ _, fun j y hj => absurd hj (Nat.not_lt_zero _), fun j y hj hy => by have := (List.getElem?_eq_some_iff.1 hy).1; have := HN.out; omega⟩
  case round =>
    obtain ⟨lo, hi, rfl, rfl, hlh, hhn, hk, hlo, hhi⟩ := hrel
    have HK : Hid _ := hk
    have KW : Hid (Keep (fun _ => False) w wr) := K0.out.trans hk
    have HL : Hid _ := hlo
    have HH : Hid _ := hhi
    have RT : Hid (wr.rangeAt w.heap.size 0 (t.map bv)) := hk.range Z0.out (fun h => h) R0.out
    clear hk hlo hhi
    by_cases hlt : lo < hi
    · obtain ⟨m, hm0⟩ : ∃ m, (lo + hi) / 2 = m := ⟨_, rfl⟩
      have hme : ((lo : Int) + (hi : Int)) / 2 = (m : Int) := by omega
      have hm1 : lo ≤ m := by omega
      have hm2 : m < hi := by omega
      have hm3 : m < n := by omega
      clear hm0
      obtain ⟨x, hx⟩ : ∃ x, els[m]? = some x := ⟨_, List.getElem?_eq_getElem (by rw [HN.out]; omega)⟩
      obtain ⟨b1, o1, rfl, hb1, hr1⟩ : ∃ b off, a = some ⟨b, off, none⟩ ∧ b < w.heap.size ∧ ∀ i x, els[i]? = some x → w.rangeAt b (off + i * 32) (x.map bv) := by rcases H.out.lay with e | e; omega; exact e
      have R1 : Hid (wr.rangeAt b1 (o1 + m * 32) (x.map bv)) := KW.out.range hb1 (fun h => h) (hr1 _ x hx)
      have Lx : Hid (x.length = 32) := H.out.size x (List.mem_of_getElem? hx)
      have L1 : Hid ((x.map bv).length = 32) := by show (x.map bv).length = 32; rw [List.length_map, Lx.out]
      have L2 : Hid ((t.map bv).length = 32) := by show (t.map bv).length = 32; rw [List.length_map, Lt.out]
      have Hx : Hid _ := hx
      have HC : Hid (Calls Tryd.prog g (bs ++ #[idv x, idv t] ++ ls) wr.drew fun e w2 => e = .returned (.int .i64 (cf x)) ∧ Keep (fun _ => False) wr.drew w2) := HP.out _ x KW.out.drew Lx.out
      clear hr1 hx
      by_cases hcx : cf x < 0
      · go_wp2
        refine Txt.wp_region_text (fun _ => True) [0, 0, 0, 0, 1, 1, 4, 0] (by kernel_rfl) (by kernel_rfl) trivial ?_
        (repeat (first | (refine Txt.tl_pure (v := ?_) (by rfl) ?_ ?_; rotate_left; (focus (intro _; go_simp; try with_reducible rfl)); simp only [Act.put, List.setIfInBounds_toArray, List.set_cons_zero, List.set_cons_succ]) | (refine Txt.tl_skip (by rfl) (by first | trivial | exact HS.out) ?_; simp only [Act.put, List.setIfInBounds_toArray, List.set_cons_zero, List.set_cons_succ]) | (refine Txt.tl_load (v := ?_) (by rfl) (by rfl) (by rfl) (by kernel_rfl) ?_ ?_; rotate_left; (focus (first | assumption | (go_simp; done) | (go_simp; with_reducible rfl))); simp only [Act.put, List.setIfInBounds_toArray, List.set_cons_zero, List.set_cons_succ]) | (refine Txt.tl_loadB (v := ?_) (by rfl) (by rfl) (by rfl) (by kernel_rfl) ?_ ?_; rotate_left; (focus assumption); simp only [Act.put, List.setIfInBounds_toArray, List.set_cons_zero, List.set_cons_succ])))
        refine Txt.tl_loadRow (by rfl) (by rfl) (by rfl) R1.out (by rw [L1.out]; kernel_rfl) ?_
        simp only [Act.put, List.setIfInBounds_toArray, List.set_cons_zero, List.set_cons_succ]
        (repeat (first | (refine Txt.tl_pure (v := ?_) (by rfl) ?_ ?_; rotate_left; (focus (intro _; go_simp; try with_reducible rfl)); simp only [Act.put, List.setIfInBounds_toArray, List.set_cons_zero, List.set_cons_succ]) | (refine Txt.tl_skip (by rfl) (by first | trivial | exact HS.out) ?_; simp only [Act.put, List.setIfInBounds_toArray, List.set_cons_zero, List.set_cons_succ]) | (refine Txt.tl_load (v := ?_) (by rfl) (by rfl) (by rfl) (by kernel_rfl) ?_ ?_; rotate_left; (focus (first | assumption | (go_simp; done) | (go_simp; with_reducible rfl))); simp only [Act.put, List.setIfInBounds_toArray, List.set_cons_zero, List.set_cons_succ]) | (refine Txt.tl_loadB (v := ?_) (by rfl) (by rfl) (by rfl) (by kernel_rfl) ?_ ?_; rotate_left; (focus assumption); simp only [Act.put, List.setIfInBounds_toArray, List.set_cons_zero, List.set_cons_succ])))
        refine Txt.tl_loadRow (by rfl) (by rfl) (by rfl) RT.out (by rw [L2.out]; kernel_rfl) ?_
        simp only [Act.put, List.setIfInBounds_toArray, List.set_cons_zero, List.set_cons_succ]
        (repeat (first | (refine Txt.tl_pure (v := ?_) (by rfl) ?_ ?_; rotate_left; (focus (intro _; go_simp; try with_reducible rfl)); simp only [Act.put, List.setIfInBounds_toArray, List.set_cons_zero, List.set_cons_succ]) | (refine Txt.tl_skip (by rfl) (by first | trivial | exact HS.out) ?_; simp only [Act.put, List.setIfInBounds_toArray, List.set_cons_zero, List.set_cons_succ]) | (refine Txt.tl_load (v := ?_) (by rfl) (by rfl) (by rfl) (by kernel_rfl) ?_ ?_; rotate_left; (focus (first | assumption | (go_simp; done) | (go_simp; with_reducible rfl))); simp only [Act.put, List.setIfInBounds_toArray, List.set_cons_zero, List.set_cons_succ]) | (refine Txt.tl_loadB (v := ?_) (by rfl) (by rfl) (by rfl) (by kernel_rfl) ?_ ?_; rotate_left; (focus assumption); simp only [Act.put, List.setIfInBounds_toArray, List.set_cons_zero, List.set_cons_succ])))
        refine Txt.tl_callv (vs := #[idv x, idv t]) (by rfl) (by rfl) (by rfl) eg (by rfl) HC.out ?_
        rintro e w2 ⟨rfl, h2⟩
        have K2 : Hid _ := h2
        clear h2
        refine ⟨_, rfl, trivial, ?_⟩
        simp only [Act.put, List.setIfInBounds_toArray, List.set_cons_zero, List.set_cons_succ]
        (repeat (first | (refine Txt.tl_pure (v := ?_) (by rfl) ?_ ?_; rotate_left; (focus (intro _; go_simp; try with_reducible rfl)); simp only [Act.put, List.setIfInBounds_toArray, List.set_cons_zero, List.set_cons_succ]) | (refine Txt.tl_skip (by rfl) (by first | trivial | exact HS.out) ?_; simp only [Act.put, List.setIfInBounds_toArray, List.set_cons_zero, List.set_cons_succ]) | (refine Txt.tl_load (v := ?_) (by rfl) (by rfl) (by rfl) (by kernel_rfl) ?_ ?_; rotate_left; (focus (first | assumption | (go_simp; done) | (go_simp; with_reducible rfl))); simp only [Act.put, List.setIfInBounds_toArray, List.set_cons_zero, List.set_cons_succ]) | (refine Txt.tl_loadB (v := ?_) (by rfl) (by rfl) (by rfl) (by kernel_rfl) ?_ ?_; rotate_left; (focus assumption); simp only [Act.put, List.setIfInBounds_toArray, List.set_cons_zero, List.set_cons_succ])))
        refine Txt.tl_nil ?_
        go_wp2
        go_roundw
        case rel =>
          refine ⟨m + 1, hi, rfl, rfl, by omega, hhn, HK.out.drew.trans K2.out, fun j y hj hy => ?_, HH.out⟩
          exact HM.out j m y x (by omega) hy Hx.out hcx
        case measure => simp [intOf]; omega
      · have hcx' : 0 ≤ cf x := by omega
        go_wp2
        refine Txt.wp_region_text (fun _ => True) [0, 0, 0, 0, 1, 1, 4, 0] (by kernel_rfl) (by kernel_rfl) trivial ?_
        (repeat (first | (refine Txt.tl_pure (v := ?_) (by rfl) ?_ ?_; rotate_left; (focus (intro _; go_simp; try with_reducible rfl)); simp only [Act.put, List.setIfInBounds_toArray, List.set_cons_zero, List.set_cons_succ]) | (refine Txt.tl_skip (by rfl) (by first | trivial | exact HS.out) ?_; simp only [Act.put, List.setIfInBounds_toArray, List.set_cons_zero, List.set_cons_succ]) | (refine Txt.tl_load (v := ?_) (by rfl) (by rfl) (by rfl) (by kernel_rfl) ?_ ?_; rotate_left; (focus (first | assumption | (go_simp; done) | (go_simp; with_reducible rfl))); simp only [Act.put, List.setIfInBounds_toArray, List.set_cons_zero, List.set_cons_succ]) | (refine Txt.tl_loadB (v := ?_) (by rfl) (by rfl) (by rfl) (by kernel_rfl) ?_ ?_; rotate_left; (focus assumption); simp only [Act.put, List.setIfInBounds_toArray, List.set_cons_zero, List.set_cons_succ])))
        refine Txt.tl_loadRow (by rfl) (by rfl) (by rfl) R1.out (by rw [L1.out]; kernel_rfl) ?_
        simp only [Act.put, List.setIfInBounds_toArray, List.set_cons_zero, List.set_cons_succ]
        (repeat (first | (refine Txt.tl_pure (v := ?_) (by rfl) ?_ ?_; rotate_left; (focus (intro _; go_simp; try with_reducible rfl)); simp only [Act.put, List.setIfInBounds_toArray, List.set_cons_zero, List.set_cons_succ]) | (refine Txt.tl_skip (by rfl) (by first | trivial | exact HS.out) ?_; simp only [Act.put, List.setIfInBounds_toArray, List.set_cons_zero, List.set_cons_succ]) | (refine Txt.tl_load (v := ?_) (by rfl) (by rfl) (by rfl) (by kernel_rfl) ?_ ?_; rotate_left; (focus (first | assumption | (go_simp; done) | (go_simp; with_reducible rfl))); simp only [Act.put, List.setIfInBounds_toArray, List.set_cons_zero, List.set_cons_succ]) | (refine Txt.tl_loadB (v := ?_) (by rfl) (by rfl) (by rfl) (by kernel_rfl) ?_ ?_; rotate_left; (focus assumption); simp only [Act.put, List.setIfInBounds_toArray, List.set_cons_zero, List.set_cons_succ])))
        refine Txt.tl_loadRow (by rfl) (by rfl) (by rfl) RT.out (by rw [L2.out]; kernel_rfl) ?_
        simp only [Act.put, List.setIfInBounds_toArray, List.set_cons_zero, List.set_cons_succ]
        (repeat (first | (refine Txt.tl_pure (v := ?_) (by rfl) ?_ ?_; rotate_left; (focus (intro _; go_simp; try with_reducible rfl)); simp only [Act.put, List.setIfInBounds_toArray, List.set_cons_zero, List.set_cons_succ]) | (refine Txt.tl_skip (by rfl) (by first | trivial | exact HS.out) ?_; simp only [Act.put, List.setIfInBounds_toArray, List.set_cons_zero, List.set_cons_succ]) | (refine Txt.tl_load (v := ?_) (by rfl) (by rfl) (by rfl) (by kernel_rfl) ?_ ?_; rotate_left; (focus (first | assumption | (go_simp; done) | (go_simp; with_reducible rfl))); simp only [Act.put, List.setIfInBounds_toArray, List.set_cons_zero, List.set_cons_succ]) | (refine Txt.tl_loadB (v := ?_) (by rfl) (by rfl) (by rfl) (by kernel_rfl) ?_ ?_; rotate_left; (focus assumption); simp only [Act.put, List.setIfInBounds_toArray, List.set_cons_zero, List.set_cons_succ])))
        refine Txt.tl_callv (vs := #[idv x, idv t]) (by rfl) (by rfl) (by rfl) eg (by rfl) HC.out ?_
        rintro e w2 ⟨rfl, h2⟩
        have K2 : Hid _ := h2
        clear h2
        refine ⟨_, rfl, trivial, ?_⟩
        simp only [Act.put, List.setIfInBounds_toArray, List.set_cons_zero, List.set_cons_succ]
        (repeat (first | (refine Txt.tl_pure (v := ?_) (by rfl) ?_ ?_; rotate_left; (focus (intro _; go_simp; try with_reducible rfl)); simp only [Act.put, List.setIfInBounds_toArray, List.set_cons_zero, List.set_cons_succ]) | (refine Txt.tl_skip (by rfl) (by first | trivial | exact HS.out) ?_; simp only [Act.put, List.setIfInBounds_toArray, List.set_cons_zero, List.set_cons_succ]) | (refine Txt.tl_load (v := ?_) (by rfl) (by rfl) (by rfl) (by kernel_rfl) ?_ ?_; rotate_left; (focus (first | assumption | (go_simp; done) | (go_simp; with_reducible rfl))); simp only [Act.put, List.setIfInBounds_toArray, List.set_cons_zero, List.set_cons_succ]) | (refine Txt.tl_loadB (v := ?_) (by rfl) (by rfl) (by rfl) (by kernel_rfl) ?_ ?_; rotate_left; (focus assumption); simp only [Act.put, List.setIfInBounds_toArray, List.set_cons_zero, List.set_cons_succ])))
        refine Txt.tl_nil ?_
        go_wp2
        go_roundw
        case rel =>
          refine ⟨lo, m, rfl, rfl, by omega, by omega, HK.out.drew.trans K2.out, HL.out, fun j y hj hy => ?_⟩
          by_cases e : cf y < 0
          · exact absurd (HM.out m j x y hj Hx.out hy e) (by omega)
          · omega
        case measure => simp [intOf]; omega
    · obtain rfl : hi = lo := by omega
      by_cases hln : hi < n
      · obtain ⟨x, hx⟩ : ∃ x, els[hi]? = some x := ⟨_, List.getElem?_eq_getElem (by rw [HN.out]; omega)⟩
        obtain ⟨b1, o1, rfl, hb1, hr1⟩ : ∃ b off, a = some ⟨b, off, none⟩ ∧ b < w.heap.size ∧ ∀ i x, els[i]? = some x → w.rangeAt b (off + i * 32) (x.map bv) := by rcases H.out.lay with e | e; omega; exact e
        have R1 : Hid (wr.rangeAt b1 (o1 + hi * 32) (x.map bv)) := KW.out.range hb1 (fun h => h) (hr1 _ x hx)
        have Lx : Hid (x.length = 32) := H.out.size x (List.mem_of_getElem? hx)
        have L1 : Hid ((x.map bv).length = 32) := by show (x.map bv).length = 32; rw [List.length_map, Lx.out]
        have L2 : Hid ((t.map bv).length = 32) := by show (t.map bv).length = 32; rw [List.length_map, Lt.out]
        have Hx : Hid _ := hx
        have HC : Hid (Calls Tryd.prog g (bs ++ #[idv x, idv t] ++ ls) wr.drew fun e w2 => e = .returned (.int .i64 (cf x)) ∧ Keep (fun _ => False) wr.drew w2) := HP.out _ x KW.out.drew Lx.out
        clear hr1 hx
        go_wp2
        refine Txt.wp_region_text (fun _ => True) [0, 0, 0, 0, 0, 0, 0, 0, 0, 1, 1, 4, 0, 0, 0, 0] (by kernel_rfl) (by kernel_rfl) trivial ?_
        (repeat (first | (refine Txt.tl_pure (v := ?_) (by rfl) ?_ ?_; rotate_left; (focus (intro _; go_simp; try with_reducible rfl)); simp only [Act.put, List.setIfInBounds_toArray, List.set_cons_zero, List.set_cons_succ]) | (refine Txt.tl_skip (by rfl) (by first | trivial | exact HS.out) ?_; simp only [Act.put, List.setIfInBounds_toArray, List.set_cons_zero, List.set_cons_succ]) | (refine Txt.tl_load (v := ?_) (by rfl) (by rfl) (by rfl) (by kernel_rfl) ?_ ?_; rotate_left; (focus (first | assumption | (go_simp; done) | (go_simp; with_reducible rfl))); simp only [Act.put, List.setIfInBounds_toArray, List.set_cons_zero, List.set_cons_succ]) | (refine Txt.tl_loadB (v := ?_) (by rfl) (by rfl) (by rfl) (by kernel_rfl) ?_ ?_; rotate_left; (focus assumption); simp only [Act.put, List.setIfInBounds_toArray, List.set_cons_zero, List.set_cons_succ])))
        refine Txt.tl_loadRow (by rfl) (by rfl) (by rfl) R1.out (by rw [L1.out]; kernel_rfl) ?_
        simp only [Act.put, List.setIfInBounds_toArray, List.set_cons_zero, List.set_cons_succ]
        (repeat (first | (refine Txt.tl_pure (v := ?_) (by rfl) ?_ ?_; rotate_left; (focus (intro _; go_simp; try with_reducible rfl)); simp only [Act.put, List.setIfInBounds_toArray, List.set_cons_zero, List.set_cons_succ]) | (refine Txt.tl_skip (by rfl) (by first | trivial | exact HS.out) ?_; simp only [Act.put, List.setIfInBounds_toArray, List.set_cons_zero, List.set_cons_succ]) | (refine Txt.tl_load (v := ?_) (by rfl) (by rfl) (by rfl) (by kernel_rfl) ?_ ?_; rotate_left; (focus (first | assumption | (go_simp; done) | (go_simp; with_reducible rfl))); simp only [Act.put, List.setIfInBounds_toArray, List.set_cons_zero, List.set_cons_succ]) | (refine Txt.tl_loadB (v := ?_) (by rfl) (by rfl) (by rfl) (by kernel_rfl) ?_ ?_; rotate_left; (focus assumption); simp only [Act.put, List.setIfInBounds_toArray, List.set_cons_zero, List.set_cons_succ])))
        refine Txt.tl_loadRow (by rfl) (by rfl) (by rfl) RT.out (by rw [L2.out]; kernel_rfl) ?_
        simp only [Act.put, List.setIfInBounds_toArray, List.set_cons_zero, List.set_cons_succ]
        (repeat (first | (refine Txt.tl_pure (v := ?_) (by rfl) ?_ ?_; rotate_left; (focus (intro _; go_simp; try with_reducible rfl)); simp only [Act.put, List.setIfInBounds_toArray, List.set_cons_zero, List.set_cons_succ]) | (refine Txt.tl_skip (by rfl) (by first | trivial | exact HS.out) ?_; simp only [Act.put, List.setIfInBounds_toArray, List.set_cons_zero, List.set_cons_succ]) | (refine Txt.tl_load (v := ?_) (by rfl) (by rfl) (by rfl) (by kernel_rfl) ?_ ?_; rotate_left; (focus (first | assumption | (go_simp; done) | (go_simp; with_reducible rfl))); simp only [Act.put, List.setIfInBounds_toArray, List.set_cons_zero, List.set_cons_succ]) | (refine Txt.tl_loadB (v := ?_) (by rfl) (by rfl) (by rfl) (by kernel_rfl) ?_ ?_; rotate_left; (focus assumption); simp only [Act.put, List.setIfInBounds_toArray, List.set_cons_zero, List.set_cons_succ])))
        refine Txt.tl_callv (vs := #[idv x, idv t]) (by rfl) (by rfl) (by rfl) eg (by rfl) HC.out ?_
        rintro e w2 ⟨rfl, h2⟩
        have K2 : Hid _ := h2
        clear h2
        refine ⟨_, rfl, trivial, ?_⟩
        simp only [Act.put, List.setIfInBounds_toArray, List.set_cons_zero, List.set_cons_succ]
        (repeat (first | (refine Txt.tl_pure (v := ?_) (by rfl) ?_ ?_; rotate_left; (focus (intro _; go_simp; try with_reducible rfl)); simp only [Act.put, List.setIfInBounds_toArray, List.set_cons_zero, List.set_cons_succ]) | (refine Txt.tl_skip (by rfl) (by first | trivial | exact HS.out) ?_; simp only [Act.put, List.setIfInBounds_toArray, List.set_cons_zero, List.set_cons_succ]) | (refine Txt.tl_load (v := ?_) (by rfl) (by rfl) (by rfl) (by kernel_rfl) ?_ ?_; rotate_left; (focus (first | assumption | (go_simp; done) | (go_simp; with_reducible rfl))); simp only [Act.put, List.setIfInBounds_toArray, List.set_cons_zero, List.set_cons_succ]) | (refine Txt.tl_loadB (v := ?_) (by rfl) (by rfl) (by rfl) (by kernel_rfl) ?_ ?_; rotate_left; (focus assumption); simp only [Act.put, List.setIfInBounds_toArray, List.set_cons_zero, List.set_cons_succ])))
        refine Txt.tl_nil ?_
        go_wp2
        go_ret2
        refine ⟨hi, decide (cf x = 0), rfl, ⟨by rw [HN.out]; omega, HL.out, HH.out, ?_⟩, KW.out.drew.trans K2.out⟩
        rw [Hx.out]
        simp
      · go_wp2
        refine Txt.wp_region_text (fun _ => True) [0, 0, 0, 0, 0, 0, 0, 0, 0, 1, 1, 4, 0, 0, 0, 0] (by kernel_rfl) (by kernel_rfl) trivial ?_
        (repeat (first | (refine Txt.tl_pure (v := ?_) (by rfl) ?_ ?_; rotate_left; (focus (intro _; go_simp; try with_reducible rfl)); simp only [Act.put, List.setIfInBounds_toArray, List.set_cons_zero, List.set_cons_succ]) | (refine Txt.tl_skip (by rfl) (by first | trivial | exact HS.out) ?_; simp only [Act.put, List.setIfInBounds_toArray, List.set_cons_zero, List.set_cons_succ]) | (refine Txt.tl_load (v := ?_) (by rfl) (by rfl) (by rfl) (by kernel_rfl) ?_ ?_; rotate_left; (focus (first | assumption | (go_simp; done) | (go_simp; with_reducible rfl))); simp only [Act.put, List.setIfInBounds_toArray, List.set_cons_zero, List.set_cons_succ]) | (refine Txt.tl_loadB (v := ?_) (by rfl) (by rfl) (by rfl) (by kernel_rfl) ?_ ?_; rotate_left; (focus assumption); simp only [Act.put, List.setIfInBounds_toArray, List.set_cons_zero, List.set_cons_succ])))
        refine Txt.tl_nil ?_
        go_wp2
        go_ret2
        refine ⟨hi, false, rfl, ⟨by rw [HN.out]; omega, HL.out, HH.out, ?_⟩, KW.out.drew⟩
        have e : els[hi]? = none := List.getElem?_eq_none (by rw [HN.out]; omega)
        rw [e]
        simp
theorem compare_eg : ∀ args w, (callFunc 57 args).run Tryd.prog w = .ok (.enter 57 args) w := enters_of Tryd.func57 (by kernel_rfl) rfl
theorem compare_cmpT (w : World) (t : List UInt8) (ht : t.length = 32) : CmpT w 57 #[] #[] t (fun x => IdL.cmpL x t) :=
  fun w1 x _ hx => (compare_any w1 x t hx ht).mono fun e w2 ⟨he, hl⟩ => ⟨he, hl.keep⟩
theorem srt_mono {els : List (List UInt8)} (h : IdL.Srt els) (t : List UInt8) (i j : Nat) (x y : List UInt8) (hij : i ≤ j) (hx : els[i]? = some x) (hy : els[j]? = some y) (hc : IdL.cmpL y t < 0) : IdL.cmpL x t < 0 := by
  rcases Nat.lt_or_ge i j with h1 | h1
  · obtain ⟨hi, rfl⟩ := List.getElem?_eq_some_iff.1 hx
    obtain ⟨hj, rfl⟩ := List.getElem?_eq_some_iff.1 hy
    exact IdL.cmpL_trans _ _ _ (List.pairwise_iff_getElem.1 h i j hi hj h1) hc
  · obtain rfl : i = j := by omega
    rw [hx] at hy
    rw [Option.some.inj hy]; exact hc
theorem found_mem {els : List (List UInt8)} (h : IdL.Srt els) {t : List UInt8} {i : Nat} {b : Bool} (hf : Found (fun x => IdL.cmpL x t) els i b) : b = decide (t ∈ els) := by
  obtain ⟨h1, h2, h3, h4⟩ := hf
  rw [Bool.eq_iff_iff, h4, decide_eq_true_eq]
  constructor
  · rintro ⟨y, hy, hc⟩
    have := IdL.cmpL_zero _ _ hc
    subst this
    exact List.mem_of_getElem? hy
  · intro hm
    obtain ⟨k, hk, rfl⟩ := List.getElem_of_mem hm
    have hkk := List.getElem?_eq_getElem hk
    rcases Nat.lt_trichotomy k i with e | e | e
    · have := h2 k _ e hkk
      exact absurd this (by simp only [IdL.cmpL_refl]; omega)
    · subst e
      exact ⟨_, hkk, IdL.cmpL_refl _⟩
    · have hi : i < els.length := by omega
      have h5 := h3 i _ (Nat.le_refl _) (List.getElem?_eq_getElem hi)
      have h6 := List.pairwise_iff_getElem.1 h i k hi hk e
      simp only at h5
      omega
/-- 'slices.BinarySearchFunc' of a set, by ident.Compare. -/
theorem search_set (w : World) (a : Option Addr) (n c : Nat) (els : List (List UInt8)) (h : At w a n els) (hm : n ≤ 1000000) (hs : IdL.Srt els) (t : List UInt8) (ht : t.length = 32) :
    Calls Tryd.prog 30 #[.slice a n c, idv t, .func (.func 57) #[] #[]] w fun e w' => ∃ (i : Nat), e = .returned (.tuple #[.int .i64 i, .bool (decide (t ∈ els))]) ∧ Keep (fun _ => False) w w' :=
  (search_any w a n c els h hm t ht _ #[] #[] _ compare_eg (compare_cmpT w t ht) (srt_mono hs t)).mono fun e w' ⟨i, b, he, hf, hk⟩ => ⟨i, by rw [he, found_mem hs hf], hk⟩
theorem Own.any' {w : World} {v : Value} {els : List (List UInt8)} (h : Own w v els) : ∃ a n c, v = .slice a n c ∧ At w a n els ∧ Hid (n = els.length) ∧ ∀ b off, a = some ⟨b, off, none⟩ → b < w.heap.size := by
  obtain ⟨a, c, e, h1, h2⟩ := h.at
  exact ⟨a, _, c, e, h1, (rfl : els.length = els.length), fun b off e => h.lt (h2 b off e)⟩
end Ids
end Go.Proofs.YthllhjdaknmlbaaDoor
