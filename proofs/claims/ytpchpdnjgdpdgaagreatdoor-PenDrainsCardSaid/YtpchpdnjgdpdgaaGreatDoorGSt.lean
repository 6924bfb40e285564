/-
  ident.Set's sort: slices.SortFunc at ids, by ident.Compare. ident.Set: a row of one's own that holds the set.
-/
import Derived.Test.YtpchpdnjgdpdgaaGreatDoorGSr
import Derived.Test.YtpchpdnjgdpdgaaGreatDoorGIl
import Derived.Shelf.SlSortCmp.NoneTotal
set_option linter.unusedVariables false
set_option linter.unusedSimpArgs false

namespace Go.Proofs.YtpchpdnjgdpdgaaGreatDoor
open Go.RowKit
def sortId_ren : Go.Shelf.Ren := ⟨fun | 6 => 58 | 15 => 96 | 14 => 95 | 28 => 135 | 29 => 136 | 20 => 127 | 21 => 128 | 22 => 129 | 23 => 130 | 24 => 131 | 25 => 132 | 26 => 133 | 27 => 134 | 46 => 149 | 47 => 150 | 48 => 151 | 49 => 152 | 50 => 153 | 57 => 160 | n => n, fun | 22 => 26 | 24 => 28 | 25 => 95 | 3 => 3 | 39 => 113 | 0 => 0 | 53 => 114 | 55 => 112 | 4 => 4 | 46 => 162 | 45 => 161 | 50 => 134 | 5 => 5 | 9 => 9 | 66 => 182 | 70 => 186 | 76 => 193 | 77 => 194 | n => n, fun | n => n⟩
theorem sortId : Go.Proofs.SlLaysF0.n6 Tryz.prog sortId_ren := {
  mixed := by kernel_rfl
  f6 := ⟨Tryz.f58.name, by decide, Tryz.func58.trans (congrArg some (by kernel_rfl))⟩
  f14 := ⟨Tryz.f95.name, by decide, Tryz.func95.trans (congrArg some (by kernel_rfl))⟩
  f15 := Tryz.func96.trans (congrArg some (by kernel_rfl))
  f20 := ⟨Tryz.f127.name, by decide, Tryz.func127.trans (congrArg some (by kernel_rfl))⟩
  f21 := ⟨Tryz.f128.name, by decide, Tryz.func128.trans (congrArg some (by kernel_rfl))⟩
  f22 := ⟨Tryz.f129.name, by decide, Tryz.func129.trans (congrArg some (by kernel_rfl))⟩
  f23 := ⟨Tryz.f130.name, by decide, Tryz.func130.trans (congrArg some (by kernel_rfl))⟩
  f24 := ⟨Tryz.f131.name, by decide, Tryz.func131.trans (congrArg some (by kernel_rfl))⟩
  f25 := ⟨Tryz.f132.name, by decide, Tryz.func132.trans (congrArg some (by kernel_rfl))⟩
  f26 := ⟨Tryz.f133.name, by decide, Tryz.func133.trans (congrArg some (by kernel_rfl))⟩
  f27 := ⟨Tryz.f134.name, by decide, Tryz.func134.trans (congrArg some (by kernel_rfl))⟩
  f28 := Tryz.func135.trans (congrArg some (by kernel_rfl))
  f29 := Tryz.func136.trans (congrArg some (by kernel_rfl))
  f46 := ⟨Tryz.f149.name, by decide, Tryz.func149.trans (congrArg some (by kernel_rfl))⟩
  f47 := Tryz.func150.trans (congrArg some (by kernel_rfl))
  f48 := Tryz.func151.trans (congrArg some (by kernel_rfl))
  f49 := ⟨Tryz.f152.name, by decide, Tryz.func152.trans (congrArg some (by kernel_rfl))⟩
  f50 := ⟨Tryz.f153.name, by decide, Tryz.func153.trans (congrArg some (by kernel_rfl))⟩
  f57 := ⟨Tryz.f160.name, by decide, Tryz.func160.trans (congrArg some (by kernel_rfl))⟩
  t0 := Tryz.underlying0
  a0 := Tryz.isAgg0
  z0 := Tryz.sizeOf0
  v0 := Tryz.zeroValue0
  t3 := Tryz.underlying3
  a3 := Tryz.isAgg3
  z3 := Tryz.sizeOf3
  v3 := Tryz.zeroValue3
  t4 := Tryz.underlying4
  a4 := Tryz.isAgg4
  z4 := Tryz.sizeOf4
  v4 := Tryz.zeroValue4
  t5 := Tryz.underlying5
  a5 := Tryz.isAgg5
  z5 := Tryz.sizeOf5
  v5 := Tryz.zeroValue5
  t9 := Tryz.underlying9
  a9 := Tryz.isAgg9
  z9 := Tryz.sizeOf9
  v9 := Tryz.zeroValue9
  t22 := Tryz.underlying26
  a22 := Tryz.isAgg26
  z22 := Tryz.sizeOf26
  v22 := Tryz.zeroValue26
  t25 := Tryz.underlying95
  a25 := Tryz.isAgg95
  z25 := Tryz.sizeOf95
  v25 := Tryz.zeroValue95
  t39 := Tryz.underlying113
  a39 := Tryz.isAgg113
  z39 := Tryz.sizeOf113
  v39 := Tryz.zeroValue113
  t45 := Tryz.underlying161
  a45 := Tryz.isAgg161
  z45 := Tryz.sizeOf161
  v45 := Tryz.zeroValue161
  t46 := Tryz.underlying162
  a46 := Tryz.isAgg162
  z46 := Tryz.sizeOf162
  v46 := Tryz.zeroValue162
  t50 := Tryz.underlying134
  a50 := Tryz.isAgg134
  z50 := Tryz.sizeOf134
  v50 := Tryz.zeroValue134
  t53 := Tryz.underlying114
  a53 := Tryz.isAgg114
  z53 := Tryz.sizeOf114
  v53 := Tryz.zeroValue114
  t55 := Tryz.underlying112
  a55 := Tryz.isAgg112
  z55 := Tryz.sizeOf112
  v55 := Tryz.zeroValue112
  t66 := Tryz.underlying182
  a66 := Tryz.isAgg182
  z66 := Tryz.sizeOf182
  v66 := Tryz.zeroValue182
  t70 := Tryz.underlying186
  a70 := Tryz.isAgg186
  z70 := Tryz.sizeOf186
  v70 := Tryz.zeroValue186
  t76 := Tryz.underlying193
  a76 := Tryz.isAgg193
  z76 := Tryz.sizeOf193
  v76 := Tryz.zeroValue193
  t77 := Tryz.underlying194
  a77 := Tryz.isAgg194
  z77 := Tryz.sizeOf194
  v77 := Tryz.zeroValue194 }
namespace Ids
open Oct
theorem cmpLays (blk off size : Nat) (w : World) : Go.Proofs.CmpLays Tryz.prog 86 #[] enc 32 cf blk off size w :=
  fun _ _ _ _ x y => (compare_any _ x.1 y.1 x.2 y.2).mono fun _ _ h => h
set_option maxHeartbeats 1000000 in
theorem sort_own (w : World) (g n c : Nat) (els : List (List UInt8)) (h : Own w (.slice (some ⟨g, 0, none⟩) n c) els) (hm : n ≤ 1000000) :
    Calls Tryz.prog 58 #[.slice (some ⟨g, 0, none⟩) n c, .func (.func 86) #[] #[]] w fun e w' =>
      e = .returned (.tuple #[]) ∧ ∃ ds, Own w' (.slice (some ⟨g, 0, none⟩) n c) ds ∧ ds.length = n ∧ IdL.Weak ds ∧ (∀ x, x ∈ ds ↔ x ∈ els) ∧ Keep (fun k => k = g) w w' := by
  obtain ⟨hn, cur, hg, hnc, hc, hsz, ht⟩ := h.block
  have eg : ∀ args w, (callFunc 86 args).run Tryz.prog w = .ok (.enter 86 args) w := enters_of Tryz.func86 (by kernel_rfl) rfl
  have hs : (arr els).size = n := by rw [arr_size, hn]
  have hcon := Go.Proofs.AnyQ.slices_SortFunc sortId 32 Tryz.isAgg28 Tryz.sizeOf28 enc enc_len enc_one cf swo 86 #[] g 0 c (arr els) w eg (cmpLays g 0 _ w) h.holds (lt_of_block hg) (by rw [hs]; omega)
  rw [hs] at hcon
  refine hcon.mono ?_
  rintro e w' ⟨rfl, d, m, os, hp, ho, rfl⟩
  rw [← hs] at hp ho
  obtain ⟨h1, h2, h3⟩ := sorted_of h.size hp ho
  have hd : d.size = n := by rw [h1, hn]
  exact ⟨rfl, back d, h.sorted m os d hd, by rw [back_len, hd], h3, h2, sortWorld_keep⟩
end Ids
end Go.Proofs.YtpchpdnjgdpdgaaGreatDoor


namespace Go.Proofs.YtpchpdnjgdpdgaaGreatDoor
open Go.RowKit
namespace Ids
open Oct
theorem Own.form {w : World} {v : Value} {els : List (List UInt8)} (h : Own w v els) : (v = .slice none 0 0 ∧ els = []) ∨ ∃ g c, v = .slice (some ⟨g, 0, none⟩) els.length c := by
  rcases h.own.2 with ⟨rfl, h0⟩ | ⟨g, cap, cur, rfl, _⟩
  · exact .inl ⟨rfl, List.eq_nil_of_length_eq_zero h0⟩
  · exact .inr ⟨g, cap, rfl⟩
theorem sort_any (w : World) (v : Value) (els : List (List UInt8)) (h : Own w v els) (hm : els.length ≤ 1000000) :
    Calls Tryz.prog 58 #[v, .func (.func 86) #[] #[]] w fun e w' =>
      e = .returned (.tuple #[]) ∧ ∃ ds, Own w' v ds ∧ IdL.Weak ds ∧ (∀ x, x ∈ ds ↔ x ∈ els) ∧ ds.length = els.length ∧ Keep (fun k => v.ownBlock = some k) w w' := by
  rcases h.form with ⟨rfl, rfl⟩ | ⟨g, c, rfl⟩
  · refine (Go.Proofs.AnyF.slices_SortFunc_none (P := Tryz.prog) (ρ := sortId_ren) { sortId with } none 0 (.func (.func 86) #[] #[]) w).mono ?_
    rintro e w' ⟨rfl, hw⟩
    rw [hw]
    exact ⟨rfl, [], h, fun i j a b _ hi => by simp at hi, fun x => Iff.rfl, rfl, Keep.refl _ _⟩
  · refine (sort_own w g _ c els h hm).mono ?_
    rintro e w' ⟨rfl, ds, h1, h2, h3, h4, h5⟩
    exact ⟨rfl, ds, h1, h3, h4, h2, h5.mono (fun k _ e => by simp [Value.ownBlock, e])⟩
set_option maxRecDepth 100000 in
set_option maxHeartbeats 1000000 in
theorem compact_nil (w : World) : Calls Tryz.prog 87 #[.slice none 0 0] w fun e w' => e = .returned (.slice none 0 0) ∧ w' = w := by
  go_enter Tryz.func87, Tryz.ntmps87
  go_wp2
  go_ret
  exact ⟨rfl, rfl⟩
theorem compact_any (w : World) (v : Value) (els : List (List UInt8)) (h : Own w v els) (hw : IdL.Weak els) (hm : els.length ≤ 1000000) :
    Calls Tryz.prog 87 #[v] w fun e w' => ∃ v', e = .returned v' ∧ Own w' v' (IdL.setL els) ∧ v'.ownBlock = v.ownBlock ∧ Keep (fun k => v.ownBlock = some k) w w' := by
  rcases h.form with ⟨rfl, rfl⟩ | ⟨g, c, rfl⟩
  · refine (compact_nil w).mono ?_
    rintro e w' ⟨rfl, hw⟩
    rw [hw]
    exact ⟨_, rfl, h, rfl, Keep.refl _ _⟩
  · refine (compact_own w g _ c els h hw hm).mono ?_
    rintro e w' ⟨n', rfl, h1, h2⟩
    exact ⟨_, rfl, h1, rfl, h2.mono (fun k _ e => by simp [Value.ownBlock, e])⟩
set_option maxRecDepth 100000 in
set_option maxHeartbeats 1000000 in
theorem set_any (w : World) (a : Option Addr) (n c : Nat) (els : List (List UInt8)) (h : At w a n els) (hm : n ≤ 1000000) :
    Calls Tryz.prog 46 #[.slice a n c] w fun e w' => ∃ v, e = .returned v ∧ New w w' v (IdL.setL els) := by
  have H : Hid _ := h
  have Hl : Hid (els.length = n) := h.len
  clear h
  go_enter Tryz.func46, Tryz.ntmps46
  go_wp2_with (first | (go_at_call 39; refine (clone_any w a n c els H.out hm).mono ?_; rintro e w1 ⟨v, rfl, h1⟩; have N1 : Hid (New w w1 v els) := h1; clear h1) | (go_at_call 58; refine (sort_any w1 v els N1.out.1 (by rw [Hl.out]; exact hm)).mono ?_; rintro e w2 ⟨rfl, ds, h1, h2, h3, h4, h5⟩; have O2 : Hid (Own w2 v ds) := h1; have W2 : Hid (IdL.Weak ds) := h2; have M2 : Hid (∀ x, x ∈ ds ↔ x ∈ els) := h3; have L2 : Hid (ds.length = els.length) := h4; have K2 : Hid (Keep (fun k => v.ownBlock = some k) w1 w2) := h5; clear h1 h2 h3 h4 h5) | (go_at_call 87; refine (compact_any w2 v ds O2.out W2.out (by rw [L2.out, Hl.out]; exact hm)).mono ?_; rintro e w3 ⟨v3, rfl, h1, h2, h3⟩; have O3 : Hid (Own w3 v3 (IdL.setL ds)) := h1; have E3 : Hid (v3.ownBlock = v.ownBlock) := h2; have K3 : Hid (Keep (fun k => v.ownBlock = some k) w2 w3) := h3; clear h1 h2 h3))
  go_ret
  obtain ⟨_, k1, f1⟩ := N1.out
  refine ⟨v3, rfl, ?_, (k1.trans' (K2.out.trans K3.out) (fun _ _ h => h) (fun k hk e => by have := f1 k e; omega)), fun k hk => f1 k (by rw [← E3.out]; exact hk)⟩
  have := O3.out
  rwa [IdL.setL_congr M2.out] at this
end Ids
end Go.Proofs.YtpchpdnjgdpdgaaGreatDoor
