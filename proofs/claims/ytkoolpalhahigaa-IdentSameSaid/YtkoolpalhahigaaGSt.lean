/-
  ident.Set's sort: slices.SortFunc at ids, by ident.Compare. ident.Set: a row of one's own that holds the set.
-/
import Derived.Test.YtkoolpalhahigaaGSr
import Derived.Test.YtkoolpalhahigaaGIl
import Derived.Shelf.SlSortCmp.NoneTotal
set_option linter.unusedVariables false
set_option linter.unusedSimpArgs false

namespace Go.Proofs.Ytkoolpalhahigaa
open Go.RowKit
def sortId_ren : Go.Shelf.Ren := ⟨fun | 6 => 53 | 15 => 86 | 14 => 85 | 28 => 111 | 29 => 112 | 20 => 103 | 21 => 104 | 22 => 105 | 23 => 106 | 24 => 107 | 25 => 108 | 26 => 109 | 27 => 110 | 46 => 123 | 47 => 124 | 48 => 125 | 49 => 126 | 50 => 127 | 57 => 139 | n => n, fun | 22 => 22 | 24 => 26 | 25 => 28 | 3 => 3 | 39 => 81 | 0 => 0 | 53 => 147 | 55 => 149 | 4 => 4 | 46 => 141 | 45 => 140 | 50 => 88 | 5 => 5 | 9 => 9 | 66 => 156 | 70 => 160 | 76 => 169 | 77 => 170 | n => n, fun | n => n⟩
theorem sortId : Go.Proofs.SlLaysF0.n6 Try.prog sortId_ren := {
  mixed := by kernel_rfl
  f6 := ⟨Try.f53.name, by decide, Try.func53.trans (congrArg some (by kernel_rfl))⟩
  f14 := ⟨Try.f85.name, by decide, Try.func85.trans (congrArg some (by kernel_rfl))⟩
  f15 := Try.func86.trans (congrArg some (by kernel_rfl))
  f20 := ⟨Try.f103.name, by decide, Try.func103.trans (congrArg some (by kernel_rfl))⟩
  f21 := ⟨Try.f104.name, by decide, Try.func104.trans (congrArg some (by kernel_rfl))⟩
  f22 := ⟨Try.f105.name, by decide, Try.func105.trans (congrArg some (by kernel_rfl))⟩
  f23 := ⟨Try.f106.name, by decide, Try.func106.trans (congrArg some (by kernel_rfl))⟩
  f24 := ⟨Try.f107.name, by decide, Try.func107.trans (congrArg some (by kernel_rfl))⟩
  f25 := ⟨Try.f108.name, by decide, Try.func108.trans (congrArg some (by kernel_rfl))⟩
  f26 := ⟨Try.f109.name, by decide, Try.func109.trans (congrArg some (by kernel_rfl))⟩
  f27 := ⟨Try.f110.name, by decide, Try.func110.trans (congrArg some (by kernel_rfl))⟩
  f28 := Try.func111.trans (congrArg some (by kernel_rfl))
  f29 := Try.func112.trans (congrArg some (by kernel_rfl))
  f46 := ⟨Try.f123.name, by decide, Try.func123.trans (congrArg some (by kernel_rfl))⟩
  f47 := Try.func124.trans (congrArg some (by kernel_rfl))
  f48 := Try.func125.trans (congrArg some (by kernel_rfl))
  f49 := ⟨Try.f126.name, by decide, Try.func126.trans (congrArg some (by kernel_rfl))⟩
  f50 := ⟨Try.f127.name, by decide, Try.func127.trans (congrArg some (by kernel_rfl))⟩
  f57 := ⟨Try.f139.name, by decide, Try.func139.trans (congrArg some (by kernel_rfl))⟩
  t0 := Try.underlying0
  a0 := Try.isAgg0
  z0 := Try.sizeOf0
  v0 := Try.zeroValue0
  t3 := Try.underlying3
  a3 := Try.isAgg3
  z3 := Try.sizeOf3
  v3 := Try.zeroValue3
  t4 := Try.underlying4
  a4 := Try.isAgg4
  z4 := Try.sizeOf4
  v4 := Try.zeroValue4
  t5 := Try.underlying5
  a5 := Try.isAgg5
  z5 := Try.sizeOf5
  v5 := Try.zeroValue5
  t9 := Try.underlying9
  a9 := Try.isAgg9
  z9 := Try.sizeOf9
  v9 := Try.zeroValue9
  t22 := Try.underlying22
  a22 := Try.isAgg22
  z22 := Try.sizeOf22
  v22 := Try.zeroValue22
  t25 := Try.underlying28
  a25 := Try.isAgg28
  z25 := Try.sizeOf28
  v25 := Try.zeroValue28
  t39 := Try.underlying81
  a39 := Try.isAgg81
  z39 := Try.sizeOf81
  v39 := Try.zeroValue81
  t45 := Try.underlying140
  a45 := Try.isAgg140
  z45 := Try.sizeOf140
  v45 := Try.zeroValue140
  t46 := Try.underlying141
  a46 := Try.isAgg141
  z46 := Try.sizeOf141
  v46 := Try.zeroValue141
  t50 := Try.underlying88
  a50 := Try.isAgg88
  z50 := Try.sizeOf88
  v50 := Try.zeroValue88
  t53 := Try.underlying147
  a53 := Try.isAgg147
  z53 := Try.sizeOf147
  v53 := Try.zeroValue147
  t55 := Try.underlying149
  a55 := Try.isAgg149
  z55 := Try.sizeOf149
  v55 := Try.zeroValue149
  t66 := Try.underlying156
  a66 := Try.isAgg156
  z66 := Try.sizeOf156
  v66 := Try.zeroValue156
  t70 := Try.underlying160
  a70 := Try.isAgg160
  z70 := Try.sizeOf160
  v70 := Try.zeroValue160
  t76 := Try.underlying169
  a76 := Try.isAgg169
  z76 := Try.sizeOf169
  v76 := Try.zeroValue169
  t77 := Try.underlying170
  a77 := Try.isAgg170
  z77 := Try.sizeOf170
  v77 := Try.zeroValue170 }
namespace Ids
open Oct
theorem cmpLays (blk off size : Nat) (w : World) : Go.Proofs.CmpLays Try.prog 14 #[] enc 32 cf blk off size w :=
  fun _ _ _ _ x y => (compare_any _ x.1 y.1 x.2 y.2).mono fun _ _ h => h
set_option maxHeartbeats 1000000 in
theorem sort_own (w : World) (g n c : Nat) (els : List (List UInt8)) (h : Own w (.slice (some ⟨g, 0, none⟩) n c) els) (hm : n ≤ 1000000) :
    Calls Try.prog 53 #[.slice (some ⟨g, 0, none⟩) n c, .func (.func 14) #[] #[]] w fun e w' =>
      e = .returned (.tuple #[]) ∧ ∃ ds, Own w' (.slice (some ⟨g, 0, none⟩) n c) ds ∧ ds.length = n ∧ IdL.Weak ds ∧ (∀ x, x ∈ ds ↔ x ∈ els) ∧ Keep (fun k => k = g) w w' := by
  obtain ⟨hn, cur, hg, hnc, hc, hsz, ht⟩ := h.block
  have eg : ∀ args w, (callFunc 14 args).run Try.prog w = .ok (.enter 14 args) w := enters_of Try.func14 (by kernel_rfl) rfl
  have hs : (arr els).size = n := by rw [arr_size, hn]
  have hcon := Go.Proofs.AnyQ.slices_SortFunc sortId 32 Try.isAgg26 Try.sizeOf26 enc enc_len enc_one cf swo 14 #[] g 0 c (arr els) w eg (cmpLays g 0 _ w) h.holds (lt_of_block hg) (by rw [hs]; omega)
  rw [hs] at hcon
  refine hcon.mono ?_
  rintro e w' ⟨rfl, d, m, os, hp, ho, rfl⟩
  rw [← hs] at hp ho
  obtain ⟨h1, h2, h3⟩ := sorted_of h.size hp ho
  have hd : d.size = n := by rw [h1, hn]
  exact ⟨rfl, back d, h.sorted m os d hd, by rw [back_len, hd], h3, h2, sortWorld_keep⟩
end Ids
end Go.Proofs.Ytkoolpalhahigaa


namespace Go.Proofs.Ytkoolpalhahigaa
open Go.RowKit
namespace Ids
open Oct
theorem Own.form {w : World} {v : Value} {els : List (List UInt8)} (h : Own w v els) : (v = .slice none 0 0 ∧ els = []) ∨ ∃ g c, v = .slice (some ⟨g, 0, none⟩) els.length c := by
  rcases h.own.2 with ⟨rfl, h0⟩ | ⟨g, cap, cur, rfl, _⟩
  · exact .inl ⟨rfl, List.eq_nil_of_length_eq_zero h0⟩
  · exact .inr ⟨g, cap, rfl⟩
theorem sort_any (w : World) (v : Value) (els : List (List UInt8)) (h : Own w v els) (hm : els.length ≤ 1000000) :
    Calls Try.prog 53 #[v, .func (.func 14) #[] #[]] w fun e w' =>
      e = .returned (.tuple #[]) ∧ ∃ ds, Own w' v ds ∧ IdL.Weak ds ∧ (∀ x, x ∈ ds ↔ x ∈ els) ∧ ds.length = els.length ∧ Keep (fun k => v.ownBlock = some k) w w' := by
  rcases h.form with ⟨rfl, rfl⟩ | ⟨g, c, rfl⟩
  · refine (Go.Proofs.AnyF.slices_SortFunc_none (P := Try.prog) (ρ := sortId_ren) { sortId with } none 0 (.func (.func 14) #[] #[]) w).mono ?_
    rintro e w' ⟨rfl, hw⟩
    rw [hw]
    exact ⟨rfl, [], h, fun i j a b _ hi => by simp at hi, fun x => Iff.rfl, rfl, Keep.refl _ _⟩
  · refine (sort_own w g _ c els h hm).mono ?_
    rintro e w' ⟨rfl, ds, h1, h2, h3, h4, h5⟩
    exact ⟨rfl, ds, h1, h3, h4, h2, h5.mono (fun k _ e => by simp [Value.ownBlock, e])⟩
set_option maxRecDepth 100000 in
set_option maxHeartbeats 1000000 in
theorem compact_nil (w : World) : Calls Try.prog 54 #[.slice none 0 0] w fun e w' => e = .returned (.slice none 0 0) ∧ w' = w := by
  go_enter Try.func54, Try.ntmps54
  go_wp2
  go_ret
  exact ⟨rfl, rfl⟩
theorem compact_any (w : World) (v : Value) (els : List (List UInt8)) (h : Own w v els) (hw : IdL.Weak els) (hm : els.length ≤ 1000000) :
    Calls Try.prog 54 #[v] w fun e w' => ∃ v', e = .returned v' ∧ Own w' v' (IdL.setL els) ∧ v'.ownBlock = v.ownBlock ∧ Keep (fun k => v.ownBlock = some k) w w' := by
  rcases h.form with ⟨rfl, rfl⟩ | ⟨g, c, rfl⟩
  · refine (compact_nil w).mono ?_
    rintro e w' ⟨rfl, hw⟩
    rw [hw]
    exact ⟨_, rfl, h, rfl, Keep.refl _ _⟩
  · refine (compact_own w g _ c els h hw hm).mono ?_
    rintro e w' ⟨n', rfl, h1, h2⟩
    exact ⟨_, rfl, h1, rfl, h2.mono (fun k _ e => by simp [Value.ownBlock, e])⟩
set_option maxRecDepth 100000 in
set_option maxHeartbeats 1000000 in
theorem set_any (w : World) (a : Option Addr) (n c : Nat) (els : List (List UInt8)) (h : At w a n els) (hm : n ≤ 1000000) :
    Calls Try.prog 13 #[.slice a n c] w fun e w' => ∃ v, e = .returned v ∧ New w w' v (IdL.setL els) := by
  have H : Hid _ := h
  have Hl : Hid (els.length = n) := h.len
  clear h
  go_enter Try.func13, Try.ntmps13
  go_wp2_with (first | (go_at_call 52; refine (clone_any w a n c els H.out hm).mono ?_; rintro e w1 ⟨v, rfl, h1⟩; have N1 : Hid (New w w1 v els) := h1; clear h1) | (go_at_call 53; refine (sort_any w1 v els N1.out.1 (by rw [Hl.out]; exact hm)).mono ?_; rintro e w2 ⟨rfl, ds, h1, h2, h3, h4, h5⟩; have O2 : Hid (Own w2 v ds) := h1; have W2 : Hid (IdL.Weak ds) := h2; have M2 : Hid (∀ x, x ∈ ds ↔ x ∈ els) := h3; have L2 : Hid (ds.length = els.length) := h4; have K2 : Hid (Keep (fun k => v.ownBlock = some k) w1 w2) := h5; clear h1 h2 h3 h4 h5) | (go_at_call 54; refine (compact_any w2 v ds O2.out W2.out (by rw [L2.out, Hl.out]; exact hm)).mono ?_; rintro e w3 ⟨v3, rfl, h1, h2, h3⟩; have O3 : Hid (Own w3 v3 (IdL.setL ds)) := h1; have E3 : Hid (v3.ownBlock = v.ownBlock) := h2; have K3 : Hid (Keep (fun k => v.ownBlock = some k) w2 w3) := h3; clear h1 h2 h3))
  go_ret
  obtain ⟨_, k1, f1⟩ := N1.out
  refine ⟨v3, rfl, ?_, (k1.trans' (K2.out.trans K3.out) (fun _ _ h => h) (fun k hk e => by have := f1 k e; omega)), fun k hk => f1 k (by rw [← E3.out]; exact hk)⟩
  have := O3.out
  rwa [IdL.setL_congr M2.out] at this
end Ids
end Go.Proofs.Ytkoolpalhahigaa
