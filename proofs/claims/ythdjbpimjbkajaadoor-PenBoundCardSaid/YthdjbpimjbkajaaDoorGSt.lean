/-
  ident.Set's sort: slices.SortFunc at ids, by ident.Compare. ident.Set: a row of one's own that holds the set.
-/
import Derived.Test.YthdjbpimjbkajaaDoorGSr
import Derived.Test.YthdjbpimjbkajaaDoorGIl
import Derived.Shelf.SlSortCmp.NoneTotal
set_option linter.unusedVariables false
set_option linter.unusedSimpArgs false

namespace Go.Proofs.YthdjbpimjbkajaaDoor
open Go.RowKit
def sortId_ren : Go.Shelf.Ren := ⟨fun | 6 => 93 | 15 => 109 | 14 => 108 | 28 => 124 | 29 => 125 | 20 => 116 | 21 => 117 | 22 => 118 | 23 => 119 | 24 => 120 | 25 => 121 | 26 => 122 | 27 => 123 | 46 => 127 | 47 => 128 | 48 => 129 | 49 => 130 | 50 => 131 | 57 => 132 | n => n, fun | 22 => 27 | 24 => 23 | 25 => 65 | 3 => 3 | 39 => 110 | 0 => 0 | 53 => 111 | 55 => 109 | 4 => 4 | 46 => 147 | 45 => 146 | 50 => 129 | 5 => 5 | 9 => 9 | 66 => 155 | 70 => 159 | 76 => 161 | 77 => 162 | n => n, fun | n => n⟩
theorem sortId : Go.Proofs.SlLaysF0.n6 Tryd.prog sortId_ren := {
  mixed := by kernel_rfl
  f6 := ⟨Tryd.f93.name, by decide, Tryd.func93.trans (congrArg some (by kernel_rfl))⟩
  f14 := ⟨Tryd.f108.name, by decide, Tryd.func108.trans (congrArg some (by kernel_rfl))⟩
  f15 := Tryd.func109.trans (congrArg some (by kernel_rfl))
  f20 := ⟨Tryd.f116.name, by decide, Tryd.func116.trans (congrArg some (by kernel_rfl))⟩
  f21 := ⟨Tryd.f117.name, by decide, Tryd.func117.trans (congrArg some (by kernel_rfl))⟩
  f22 := ⟨Tryd.f118.name, by decide, Tryd.func118.trans (congrArg some (by kernel_rfl))⟩
  f23 := ⟨Tryd.f119.name, by decide, Tryd.func119.trans (congrArg some (by kernel_rfl))⟩
  f24 := ⟨Tryd.f120.name, by decide, Tryd.func120.trans (congrArg some (by kernel_rfl))⟩
  f25 := ⟨Tryd.f121.name, by decide, Tryd.func121.trans (congrArg some (by kernel_rfl))⟩
  f26 := ⟨Tryd.f122.name, by decide, Tryd.func122.trans (congrArg some (by kernel_rfl))⟩
  f27 := ⟨Tryd.f123.name, by decide, Tryd.func123.trans (congrArg some (by kernel_rfl))⟩
  f28 := Tryd.func124.trans (congrArg some (by kernel_rfl))
  f29 := Tryd.func125.trans (congrArg some (by kernel_rfl))
  f46 := ⟨Tryd.f127.name, by decide, Tryd.func127.trans (congrArg some (by kernel_rfl))⟩
  f47 := Tryd.func128.trans (congrArg some (by kernel_rfl))
  f48 := Tryd.func129.trans (congrArg some (by kernel_rfl))
  f49 := ⟨Tryd.f130.name, by decide, Tryd.func130.trans (congrArg some (by kernel_rfl))⟩
  f50 := ⟨Tryd.f131.name, by decide, Tryd.func131.trans (congrArg some (by kernel_rfl))⟩
  f57 := ⟨Tryd.f132.name, by decide, Tryd.func132.trans (congrArg some (by kernel_rfl))⟩
  t0 := Tryd.underlying0
  a0 := Tryd.isAgg0
  z0 := Tryd.sizeOf0
  v0 := Tryd.zeroValue0
  t3 := Tryd.underlying3
  a3 := Tryd.isAgg3
  z3 := Tryd.sizeOf3
  v3 := Tryd.zeroValue3
  t4 := Tryd.underlying4
  a4 := Tryd.isAgg4
  z4 := Tryd.sizeOf4
  v4 := Tryd.zeroValue4
  t5 := Tryd.underlying5
  a5 := Tryd.isAgg5
  z5 := Tryd.sizeOf5
  v5 := Tryd.zeroValue5
  t9 := Tryd.underlying9
  a9 := Tryd.isAgg9
  z9 := Tryd.sizeOf9
  v9 := Tryd.zeroValue9
  t22 := Tryd.underlying27
  a22 := Tryd.isAgg27
  z22 := Tryd.sizeOf27
  v22 := Tryd.zeroValue27
  t25 := Tryd.underlying65
  a25 := Tryd.isAgg65
  z25 := Tryd.sizeOf65
  v25 := Tryd.zeroValue65
  t39 := Tryd.underlying110
  a39 := Tryd.isAgg110
  z39 := Tryd.sizeOf110
  v39 := Tryd.zeroValue110
  t45 := Tryd.underlying146
  a45 := Tryd.isAgg146
  z45 := Tryd.sizeOf146
  v45 := Tryd.zeroValue146
  t46 := Tryd.underlying147
  a46 := Tryd.isAgg147
  z46 := Tryd.sizeOf147
  v46 := Tryd.zeroValue147
  t50 := Tryd.underlying129
  a50 := Tryd.isAgg129
  z50 := Tryd.sizeOf129
  v50 := Tryd.zeroValue129
  t53 := Tryd.underlying111
  a53 := Tryd.isAgg111
  z53 := Tryd.sizeOf111
  v53 := Tryd.zeroValue111
  t55 := Tryd.underlying109
  a55 := Tryd.isAgg109
  z55 := Tryd.sizeOf109
  v55 := Tryd.zeroValue109
  t66 := Tryd.underlying155
  a66 := Tryd.isAgg155
  z66 := Tryd.sizeOf155
  v66 := Tryd.zeroValue155
  t70 := Tryd.underlying159
  a70 := Tryd.isAgg159
  z70 := Tryd.sizeOf159
  v70 := Tryd.zeroValue159
  t76 := Tryd.underlying161
  a76 := Tryd.isAgg161
  z76 := Tryd.sizeOf161
  v76 := Tryd.zeroValue161
  t77 := Tryd.underlying162
  a77 := Tryd.isAgg162
  z77 := Tryd.sizeOf162
  v77 := Tryd.zeroValue162 }
namespace Ids
open Oct
theorem cmpLays (blk off size : Nat) (w : World) : Go.Proofs.CmpLays Tryd.prog 32 #[] enc 32 cf blk off size w :=
  fun _ _ _ _ x y => (compare_any _ x.1 y.1 x.2 y.2).mono fun _ _ h => h
set_option maxHeartbeats 1000000 in
theorem sort_own (w : World) (g n c : Nat) (els : List (List UInt8)) (h : Own w (.slice (some ⟨g, 0, none⟩) n c) els) (hm : n ≤ 1000000) :
    Calls Tryd.prog 93 #[.slice (some ⟨g, 0, none⟩) n c, .func (.func 32) #[] #[]] w fun e w' =>
      e = .returned (.tuple #[]) ∧ ∃ ds, Own w' (.slice (some ⟨g, 0, none⟩) n c) ds ∧ ds.length = n ∧ IdL.Weak ds ∧ (∀ x, x ∈ ds ↔ x ∈ els) ∧ Keep (fun k => k = g) w w' := by
  obtain ⟨hn, cur, hg, hnc, hc, hsz, ht⟩ := h.block
  have eg : ∀ args w, (callFunc 32 args).run Tryd.prog w = .ok (.enter 32 args) w := enters_of Tryd.func32 (by kernel_rfl) rfl
  have hs : (arr els).size = n := by rw [arr_size, hn]
  have hcon := Go.Proofs.AnyQ.slices_SortFunc sortId 32 Tryd.isAgg23 Tryd.sizeOf23 enc enc_len enc_one cf swo 32 #[] g 0 c (arr els) w eg (cmpLays g 0 _ w) h.holds (lt_of_block hg) (by rw [hs]; omega)
  rw [hs] at hcon
  refine hcon.mono ?_
  rintro e w' ⟨rfl, d, m, os, hp, ho, rfl⟩
  rw [← hs] at hp ho
  obtain ⟨h1, h2, h3⟩ := sorted_of h.size hp ho
  have hd : d.size = n := by rw [h1, hn]
  exact ⟨rfl, back d, h.sorted m os d hd, by rw [back_len, hd], h3, h2, sortWorld_keep⟩
end Ids
end Go.Proofs.YthdjbpimjbkajaaDoor


namespace Go.Proofs.YthdjbpimjbkajaaDoor
open Go.RowKit
namespace Ids
open Oct
theorem Own.form {w : World} {v : Value} {els : List (List UInt8)} (h : Own w v els) : (v = .slice none 0 0 ∧ els = []) ∨ ∃ g c, v = .slice (some ⟨g, 0, none⟩) els.length c := by
  rcases h.own.2 with ⟨rfl, h0⟩ | ⟨g, cap, cur, rfl, _⟩
  · exact .inl ⟨rfl, List.eq_nil_of_length_eq_zero h0⟩
  · exact .inr ⟨g, cap, rfl⟩
theorem sort_any (w : World) (v : Value) (els : List (List UInt8)) (h : Own w v els) (hm : els.length ≤ 1000000) :
    Calls Tryd.prog 93 #[v, .func (.func 32) #[] #[]] w fun e w' =>
      e = .returned (.tuple #[]) ∧ ∃ ds, Own w' v ds ∧ IdL.Weak ds ∧ (∀ x, x ∈ ds ↔ x ∈ els) ∧ ds.length = els.length ∧ Keep (fun k => v.ownBlock = some k) w w' := by
  rcases h.form with ⟨rfl, rfl⟩ | ⟨g, c, rfl⟩
  · refine (Go.Proofs.AnyF.slices_SortFunc_none (P := Tryd.prog) (ρ := sortId_ren) { sortId with } none 0 (.func (.func 32) #[] #[]) w).mono ?_
    rintro e w' ⟨rfl, hw⟩
    rw [hw]
    exact ⟨rfl, [], h, fun i j a b _ hi => by simp at hi, fun x => Iff.rfl, rfl, Keep.refl _ _⟩
  · refine (sort_own w g _ c els h hm).mono ?_
    rintro e w' ⟨rfl, ds, h1, h2, h3, h4, h5⟩
    exact ⟨rfl, ds, h1, h3, h4, h2, h5.mono (fun k _ e => by simp [Value.ownBlock, e])⟩
set_option maxRecDepth 100000 in
set_option maxHeartbeats 1000000 in
theorem compact_nil (w : World) : Calls Tryd.prog 94 #[.slice none 0 0] w fun e w' => e = .returned (.slice none 0 0) ∧ w' = w := by
  go_enter Tryd.func94, Tryd.ntmps94
  go_wp2
  go_ret
  exact ⟨rfl, rfl⟩
theorem compact_any (w : World) (v : Value) (els : List (List UInt8)) (h : Own w v els) (hw : IdL.Weak els) (hm : els.length ≤ 1000000) :
    Calls Tryd.prog 94 #[v] w fun e w' => ∃ v', e = .returned v' ∧ Own w' v' (IdL.setL els) ∧ v'.ownBlock = v.ownBlock ∧ Keep (fun k => v.ownBlock = some k) w w' := by
  rcases h.form with ⟨rfl, rfl⟩ | ⟨g, c, rfl⟩
  · refine (compact_nil w).mono ?_
    rintro e w' ⟨rfl, hw⟩
    rw [hw]
    exact ⟨_, rfl, h, rfl, Keep.refl _ _⟩
  · refine (compact_own w g _ c els h hw hm).mono ?_
    rintro e w' ⟨n', rfl, h1, h2⟩
    exact ⟨_, rfl, h1, rfl, h2.mono (fun k _ e => by simp [Value.ownBlock, e])⟩
set_option maxRecDepth 100000 in
set_option maxHeartbeats 1000000 in
theorem set_any (w : World) (a : Option Addr) (n c : Nat) (els : List (List UInt8)) (h : At w a n els) (hm : n ≤ 1000000) :
    Calls Tryd.prog 61 #[.slice a n c] w fun e w' => ∃ v, e = .returned v ∧ New w w' v (IdL.setL els) := by
  have H : Hid _ := h
  have Hl : Hid (els.length = n) := h.len
  clear h
  go_enter Tryd.func61, Tryd.ntmps61
  go_wp2_with (first | (go_at_call 59; refine (clone_any w a n c els H.out hm).mono ?_; rintro e w1 ⟨v, rfl, h1⟩; have N1 : Hid (New w w1 v els) := h1; clear h1) | (go_at_call 93; refine (sort_any w1 v els N1.out.1 (by rw [Hl.out]; exact hm)).mono ?_; rintro e w2 ⟨rfl, ds, h1, h2, h3, h4, h5⟩; have O2 : Hid (Own w2 v ds) := h1; have W2 : Hid (IdL.Weak ds) := h2; have M2 : Hid (∀ x, x ∈ ds ↔ x ∈ els) := h3; have L2 : Hid (ds.length = els.length) := h4; have K2 : Hid (Keep (fun k => v.ownBlock = some k) w1 w2) := h5; clear h1 h2 h3 h4 h5) | (go_at_call 94; refine (compact_any w2 v ds O2.out W2.out (by rw [L2.out, Hl.out]; exact hm)).mono ?_; rintro e w3 ⟨v3, rfl, h1, h2, h3⟩; have O3 : Hid (Own w3 v3 (IdL.setL ds)) := h1; have E3 : Hid (v3.ownBlock = v.ownBlock) := h2; have K3 : Hid (Keep (fun k => v.ownBlock = some k) w2 w3) := h3; clear h1 h2 h3))
  go_ret
  obtain ⟨_, k1, f1⟩ := N1.out
  refine ⟨v3, rfl, ?_, (k1.trans' (K2.out.trans K3.out) (fun _ _ h => h) (fun k hk e => by have := f1 k e; omega)), fun k hk => f1 k (by rw [← E3.out]; exact hk)⟩
  have := O3.out
  rwa [IdL.setL_congr M2.out] at this
end Ids
end Go.Proofs.YthdjbpimjbkajaaDoor
