/-
  ident.Set's sort: slices.SortFunc at ids, by ident.Compare. ident.Set: a row of one's own that holds the set.
-/
import Derived.Test.YtenokpkpdeegcaaGSr
import Derived.Test.YtenokpkpdeegcaaGIl
import Derived.Shelf.SlSortCmp.NoneTotal
set_option linter.unusedVariables false
set_option linter.unusedSimpArgs false

namespace Go.Proofs.Ytenokpkpdeegcaa
open Go.RowKit
def sortId_ren : Go.Shelf.Ren := ⟨fun | 6 => 98 | 15 => 101 | 14 => 118 | 28 => 127 | 29 => 128 | 20 => 140 | 21 => 141 | 22 => 142 | 23 => 143 | 24 => 144 | 25 => 145 | 26 => 146 | 27 => 147 | 46 => 156 | 47 => 149 | 48 => 150 | 49 => 157 | 50 => 158 | 57 => 161 | n => n, fun | 22 => 29 | 24 => 35 | 25 => 101 | 3 => 3 | 39 => 152 | 0 => 0 | 53 => 178 | 55 => 180 | 4 => 4 | 46 => 171 | 45 => 170 | 50 => 175 | 5 => 5 | 9 => 9 | 66 => 193 | 70 => 197 | 76 => 203 | 77 => 204 | n => n, fun | n => n⟩
theorem sortId : Go.Proofs.SlLaysF0.n6 Try.prog sortId_ren := {
  mixed := by kernel_rfl
  f6 := ⟨Try.f98.name, by decide, Try.func98.trans (congrArg some (by kernel_rfl))⟩
  f14 := ⟨Try.f118.name, by decide, Try.func118.trans (congrArg some (by kernel_rfl))⟩
  f15 := Try.func101.trans (congrArg some (by kernel_rfl))
  f20 := ⟨Try.f140.name, by decide, Try.func140.trans (congrArg some (by kernel_rfl))⟩
  f21 := ⟨Try.f141.name, by decide, Try.func141.trans (congrArg some (by kernel_rfl))⟩
  f22 := ⟨Try.f142.name, by decide, Try.func142.trans (congrArg some (by kernel_rfl))⟩
  f23 := ⟨Try.f143.name, by decide, Try.func143.trans (congrArg some (by kernel_rfl))⟩
  f24 := ⟨Try.f144.name, by decide, Try.func144.trans (congrArg some (by kernel_rfl))⟩
  f25 := ⟨Try.f145.name, by decide, Try.func145.trans (congrArg some (by kernel_rfl))⟩
  f26 := ⟨Try.f146.name, by decide, Try.func146.trans (congrArg some (by kernel_rfl))⟩
  f27 := ⟨Try.f147.name, by decide, Try.func147.trans (congrArg some (by kernel_rfl))⟩
  f28 := Try.func127.trans (congrArg some (by kernel_rfl))
  f29 := Try.func128.trans (congrArg some (by kernel_rfl))
  f46 := ⟨Try.f156.name, by decide, Try.func156.trans (congrArg some (by kernel_rfl))⟩
  f47 := Try.func149.trans (congrArg some (by kernel_rfl))
  f48 := Try.func150.trans (congrArg some (by kernel_rfl))
  f49 := ⟨Try.f157.name, by decide, Try.func157.trans (congrArg some (by kernel_rfl))⟩
  f50 := ⟨Try.f158.name, by decide, Try.func158.trans (congrArg some (by kernel_rfl))⟩
  f57 := ⟨Try.f161.name, by decide, Try.func161.trans (congrArg some (by kernel_rfl))⟩
  t0 := Try.underlying0
  a0 := Try.isAgg0
  z0 := Try.sizeOf0
  v0 := Try.zeroValue0
  t3 := Try.underlying3
  a3 := Try.isAgg3
  z3 := Try.sizeOf3
  v3 := Try.zeroValue3
  t4 := Try.underlying4
  a4 := Try.isAgg4
  z4 := Try.sizeOf4
  v4 := Try.zeroValue4
  t5 := Try.underlying5
  a5 := Try.isAgg5
  z5 := Try.sizeOf5
  v5 := Try.zeroValue5
  t9 := Try.underlying9
  a9 := Try.isAgg9
  z9 := Try.sizeOf9
  v9 := Try.zeroValue9
  t22 := Try.underlying29
  a22 := Try.isAgg29
  z22 := Try.sizeOf29
  v22 := Try.zeroValue29
  t25 := Try.underlying101
  a25 := Try.isAgg101
  z25 := Try.sizeOf101
  v25 := Try.zeroValue101
  t39 := Try.underlying152
  a39 := Try.isAgg152
  z39 := Try.sizeOf152
  v39 := Try.zeroValue152
  t45 := Try.underlying170
  a45 := Try.isAgg170
  z45 := Try.sizeOf170
  v45 := Try.zeroValue170
  t46 := Try.underlying171
  a46 := Try.isAgg171
  z46 := Try.sizeOf171
  v46 := Try.zeroValue171
  t50 := Try.underlying175
  a50 := Try.isAgg175
  z50 := Try.sizeOf175
  v50 := Try.zeroValue175
  t53 := Try.underlying178
  a53 := Try.isAgg178
  z53 := Try.sizeOf178
  v53 := Try.zeroValue178
  t55 := Try.underlying180
  a55 := Try.isAgg180
  z55 := Try.sizeOf180
  v55 := Try.zeroValue180
  t66 := Try.underlying193
  a66 := Try.isAgg193
  z66 := Try.sizeOf193
  v66 := Try.zeroValue193
  t70 := Try.underlying197
  a70 := Try.isAgg197
  z70 := Try.sizeOf197
  v70 := Try.zeroValue197
  t76 := Try.underlying203
  a76 := Try.isAgg203
  z76 := Try.sizeOf203
  v76 := Try.zeroValue203
  t77 := Try.underlying204
  a77 := Try.isAgg204
  z77 := Try.sizeOf204
  v77 := Try.zeroValue204 }
namespace Ids
open Oct
theorem cmpLays (blk off size : Nat) (w : World) : Go.Proofs.CmpLays Try.prog 89 #[] enc 32 cf blk off size w :=
  fun _ _ _ _ x y => (compare_any _ x.1 y.1 x.2 y.2).mono fun _ _ h => h
set_option maxHeartbeats 1000000 in
theorem sort_own (w : World) (g n c : Nat) (els : List (List UInt8)) (h : Own w (.slice (some ⟨g, 0, none⟩) n c) els) (hm : n ≤ 1000000) :
    Calls Try.prog 98 #[.slice (some ⟨g, 0, none⟩) n c, .func (.func 89) #[] #[]] w fun e w' =>
      e = .returned (.tuple #[]) ∧ ∃ ds, Own w' (.slice (some ⟨g, 0, none⟩) n c) ds ∧ ds.length = n ∧ IdL.Weak ds ∧ (∀ x, x ∈ ds ↔ x ∈ els) ∧ Keep (fun k => k = g) w w' := by
  obtain ⟨hn, cur, hg, hnc, hc, hsz, ht⟩ := h.block
  have eg : ∀ args w, (callFunc 89 args).run Try.prog w = .ok (.enter 89 args) w := enters_of Try.func89 (by kernel_rfl) rfl
  have hs : (arr els).size = n := by rw [arr_size, hn]
  have hcon := Go.Proofs.AnyQ.slices_SortFunc sortId 32 Try.isAgg35 Try.sizeOf35 enc enc_len enc_one cf swo 89 #[] g 0 c (arr els) w eg (cmpLays g 0 _ w) h.holds (lt_of_block hg) (by rw [hs]; omega)
  rw [hs] at hcon
  refine hcon.mono ?_
  rintro e w' ⟨rfl, d, m, os, hp, ho, rfl⟩
  rw [← hs] at hp ho
  obtain ⟨h1, h2, h3⟩ := sorted_of h.size hp ho
  have hd : d.size = n := by rw [h1, hn]
  exact ⟨rfl, back d, h.sorted m os d hd, by rw [back_len, hd], h3, h2, sortWorld_keep⟩
end Ids
end Go.Proofs.Ytenokpkpdeegcaa


namespace Go.Proofs.Ytenokpkpdeegcaa
open Go.RowKit
namespace Ids
open Oct
theorem Own.form {w : World} {v : Value} {els : List (List UInt8)} (h : Own w v els) : (v = .slice none 0 0 ∧ els = []) ∨ ∃ g c, v = .slice (some ⟨g, 0, none⟩) els.length c := by
  rcases h.own.2 with ⟨rfl, h0⟩ | ⟨g, cap, cur, rfl, _⟩
  · exact .inl ⟨rfl, List.eq_nil_of_length_eq_zero h0⟩
  · exact .inr ⟨g, cap, rfl⟩
theorem sort_any (w : World) (v : Value) (els : List (List UInt8)) (h : Own w v els) (hm : els.length ≤ 1000000) :
    Calls Try.prog 98 #[v, .func (.func 89) #[] #[]] w fun e w' =>
      e = .returned (.tuple #[]) ∧ ∃ ds, Own w' v ds ∧ IdL.Weak ds ∧ (∀ x, x ∈ ds ↔ x ∈ els) ∧ ds.length = els.length ∧ Keep (fun k => v.ownBlock = some k) w w' := by
  rcases h.form with ⟨rfl, rfl⟩ | ⟨g, c, rfl⟩
  · refine (Go.Proofs.AnyF.slices_SortFunc_none (P := Try.prog) (ρ := sortId_ren) { sortId with } none 0 (.func (.func 89) #[] #[]) w).mono ?_
    rintro e w' ⟨rfl, hw⟩
    rw [hw]
    exact ⟨rfl, [], h, fun i j a b _ hi => by simp at hi, fun x => Iff.rfl, rfl, Keep.refl _ _⟩
  · refine (sort_own w g _ c els h hm).mono ?_
    rintro e w' ⟨rfl, ds, h1, h2, h3, h4, h5⟩
    exact ⟨rfl, ds, h1, h3, h4, h2, h5.mono (fun k _ e => by simp [Value.ownBlock, e])⟩
set_option maxRecDepth 100000 in
set_option maxHeartbeats 1000000 in
theorem compact_nil (w : World) : Calls Try.prog 99 #[.slice none 0 0] w fun e w' => e = .returned (.slice none 0 0) ∧ w' = w := by
  go_enter Try.func99, Try.ntmps99
  go_wp2
  go_ret
  exact ⟨rfl, rfl⟩
theorem compact_any (w : World) (v : Value) (els : List (List UInt8)) (h : Own w v els) (hw : IdL.Weak els) (hm : els.length ≤ 1000000) :
    Calls Try.prog 99 #[v] w fun e w' => ∃ v', e = .returned v' ∧ Own w' v' (IdL.setL els) ∧ v'.ownBlock = v.ownBlock ∧ Keep (fun k => v.ownBlock = some k) w w' := by
  rcases h.form with ⟨rfl, rfl⟩ | ⟨g, c, rfl⟩
  · refine (compact_nil w).mono ?_
    rintro e w' ⟨rfl, hw⟩
    rw [hw]
    exact ⟨_, rfl, h, rfl, Keep.refl _ _⟩
  · refine (compact_own w g _ c els h hw hm).mono ?_
    rintro e w' ⟨n', rfl, h1, h2⟩
    exact ⟨_, rfl, h1, rfl, h2.mono (fun k _ e => by simp [Value.ownBlock, e])⟩
set_option maxRecDepth 100000 in
set_option maxHeartbeats 1000000 in
theorem set_any (w : World) (a : Option Addr) (n c : Nat) (els : List (List UInt8)) (h : At w a n els) (hm : n ≤ 1000000) :
    Calls Try.prog 58 #[.slice a n c] w fun e w' => ∃ v, e = .returned v ∧ New w w' v (IdL.setL els) := by
  have H : Hid _ := h
  have Hl : Hid (els.length = n) := h.len
  clear h
  go_enter Try.func58, Try.ntmps58
  go_wp2_with (first | (go_at_call 97; refine (clone_any w a n c els H.out hm).mono ?_; rintro e w1 ⟨v, rfl, h1⟩; have N1 : Hid (New w w1 v els) := h1; clear h1) | (go_at_call 98; refine (sort_any w1 v els N1.out.1 (by rw [Hl.out]; exact hm)).mono ?_; rintro e w2 ⟨rfl, ds, h1, h2, h3, h4, h5⟩; have O2 : Hid (Own w2 v ds) := h1; have W2 : Hid (IdL.Weak ds) := h2; have M2 : Hid (∀ x, x ∈ ds ↔ x ∈ els) := h3; have L2 : Hid (ds.length = els.length) := h4; have K2 : Hid (Keep (fun k => v.ownBlock = some k) w1 w2) := h5; clear h1 h2 h3 h4 h5) | (go_at_call 99; refine (compact_any w2 v ds O2.out W2.out (by rw [L2.out, Hl.out]; exact hm)).mono ?_; rintro e w3 ⟨v3, rfl, h1, h2, h3⟩; have O3 : Hid (Own w3 v3 (IdL.setL ds)) := h1; have E3 : Hid (v3.ownBlock = v.ownBlock) := h2; have K3 : Hid (Keep (fun k => v.ownBlock = some k) w2 w3) := h3; clear h1 h2 h3))
  go_ret
  obtain ⟨_, k1, f1⟩ := N1.out
  refine ⟨v3, rfl, ?_, (k1.trans' (K2.out.trans K3.out) (fun _ _ h => h) (fun k hk e => by have := f1 k e; omega)), fun k hk => f1 k (by rw [← E3.out]; exact hk)⟩
  have := O3.out
  rwa [IdL.setL_congr M2.out] at this
end Ids
end Go.Proofs.Ytenokpkpdeegcaa
