/-
  Chapter 24: writings sorted. Chapter 24: pairs: in memory, their order, sorted; what Compact leaves. Chapter 24: slices.Compact at a row of pairs. Turned from XCpt. Chapter 24: pairs sorted; List. Chapter 24: List, Get, Ids. Chapter 24: Ids, Put.
-/
import Derived.Test.YtgpimeobkacniaaGMa
import Derived.Test.YtgpimeobkacniaaSoK
import Derived.Test.YtgpimeobkacniaaSqF
set_option linter.unusedVariables false
set_option linter.unusedSimpArgs false

namespace Go.Proofs.Ytgpimeobkacniaa
open Go.RowKit
def sortWr_ren : Go.Shelf.Ren := ⟨fun | 6 => 95 | 15 => 100 | 14 => 116 | 28 => 126 | 29 => 127 | 20 => 131 | 21 => 132 | 22 => 133 | 23 => 134 | 24 => 135 | 25 => 136 | 26 => 137 | 27 => 138 | 46 => 152 | 47 => 148 | 48 => 149 | 49 => 153 | 50 => 154 | 57 => 159 | n => n, fun | 22 => 102 | 24 => 105 | 25 => 147 | 3 => 3 | 39 => 151 | 0 => 0 | 53 => 177 | 55 => 179 | 4 => 4 | 46 => 170 | 45 => 169 | 50 => 174 | 5 => 5 | 9 => 9 | 66 => 192 | 70 => 196 | 76 => 202 | 77 => 203 | n => n, fun | n => n⟩
theorem sortWr : Go.Proofs.SlLaysF0.n6 Try.prog sortWr_ren := {
  mixed := by kernel_rfl
  f6 := ⟨Try.f95.name, by decide, Try.func95.trans (congrArg some (by kernel_rfl))⟩
  f14 := ⟨Try.f116.name, by decide, Try.func116.trans (congrArg some (by kernel_rfl))⟩
  f15 := Try.func100.trans (congrArg some (by kernel_rfl))
  f20 := ⟨Try.f131.name, by decide, Try.func131.trans (congrArg some (by kernel_rfl))⟩
  f21 := ⟨Try.f132.name, by decide, Try.func132.trans (congrArg some (by kernel_rfl))⟩
  f22 := ⟨Try.f133.name, by decide, Try.func133.trans (congrArg some (by kernel_rfl))⟩
  f23 := ⟨Try.f134.name, by decide, Try.func134.trans (congrArg some (by kernel_rfl))⟩
  f24 := ⟨Try.f135.name, by decide, Try.func135.trans (congrArg some (by kernel_rfl))⟩
  f25 := ⟨Try.f136.name, by decide, Try.func136.trans (congrArg some (by kernel_rfl))⟩
  f26 := ⟨Try.f137.name, by decide, Try.func137.trans (congrArg some (by kernel_rfl))⟩
  f27 := ⟨Try.f138.name, by decide, Try.func138.trans (congrArg some (by kernel_rfl))⟩
  f28 := Try.func126.trans (congrArg some (by kernel_rfl))
  f29 := Try.func127.trans (congrArg some (by kernel_rfl))
  f46 := ⟨Try.f152.name, by decide, Try.func152.trans (congrArg some (by kernel_rfl))⟩
  f47 := Try.func148.trans (congrArg some (by kernel_rfl))
  f48 := Try.func149.trans (congrArg some (by kernel_rfl))
  f49 := ⟨Try.f153.name, by decide, Try.func153.trans (congrArg some (by kernel_rfl))⟩
  f50 := ⟨Try.f154.name, by decide, Try.func154.trans (congrArg some (by kernel_rfl))⟩
  f57 := ⟨Try.f159.name, by decide, Try.func159.trans (congrArg some (by kernel_rfl))⟩
  t0 := Try.underlying0
  a0 := Try.isAgg0
  z0 := Try.sizeOf0
  v0 := Try.zeroValue0
  t3 := Try.underlying3
  a3 := Try.isAgg3
  z3 := Try.sizeOf3
  v3 := Try.zeroValue3
  t4 := Try.underlying4
  a4 := Try.isAgg4
  z4 := Try.sizeOf4
  v4 := Try.zeroValue4
  t5 := Try.underlying5
  a5 := Try.isAgg5
  z5 := Try.sizeOf5
  v5 := Try.zeroValue5
  t9 := Try.underlying9
  a9 := Try.isAgg9
  z9 := Try.sizeOf9
  v9 := Try.zeroValue9
  t22 := Try.underlying102
  a22 := Try.isAgg102
  z22 := Try.sizeOf102
  v22 := Try.zeroValue102
  t25 := Try.underlying147
  a25 := Try.isAgg147
  z25 := Try.sizeOf147
  v25 := Try.zeroValue147
  t39 := Try.underlying151
  a39 := Try.isAgg151
  z39 := Try.sizeOf151
  v39 := Try.zeroValue151
  t45 := Try.underlying169
  a45 := Try.isAgg169
  z45 := Try.sizeOf169
  v45 := Try.zeroValue169
  t46 := Try.underlying170
  a46 := Try.isAgg170
  z46 := Try.sizeOf170
  v46 := Try.zeroValue170
  t50 := Try.underlying174
  a50 := Try.isAgg174
  z50 := Try.sizeOf174
  v50 := Try.zeroValue174
  t53 := Try.underlying177
  a53 := Try.isAgg177
  z53 := Try.sizeOf177
  v53 := Try.zeroValue177
  t55 := Try.underlying179
  a55 := Try.isAgg179
  z55 := Try.sizeOf179
  v55 := Try.zeroValue179
  t66 := Try.underlying192
  a66 := Try.isAgg192
  z66 := Try.sizeOf192
  v66 := Try.zeroValue192
  t70 := Try.underlying196
  a70 := Try.isAgg196
  z70 := Try.sizeOf196
  v70 := Try.zeroValue196
  t76 := Try.underlying202
  a76 := Try.isAgg202
  z76 := Try.sizeOf202
  v76 := Try.zeroValue202
  t77 := Try.underlying203
  a77 := Try.isAgg203
  z77 := Try.sizeOf203
  v77 := Try.zeroValue203 }
namespace Mu
open Oct Ids Mp
open Mem (M It blk ids rows)
open Sq (dG addG put_dG look_G zeroB lnv map_nil okI pack own_idat wl_buildL at_load at_alloc at_store fill_cons ex_buildL it_key tyI)
instance : Inhabited Wr := ⟨⟨List.replicate 32 0, by simp, ByteArray.empty, ByteArray.empty⟩⟩
theorem swoW : Go.Sort.SWO (Go.Proofs.ltOf cmpW) where
  irrefl x := by
    unfold ltOf
    exact decide_eq_false fun h => ltW_irr x ((ltW_iff x x).1 h)
  trans x y z h1 h2 := by
    unfold ltOf at *
    exact decide_eq_true ((ltW_iff _ _).2 (ltW_trans ((ltW_iff _ _).1 (of_decide_eq_true h1)) ((ltW_iff _ _).1 (of_decide_eq_true h2))))
  ntrans x y z h1 h2 := by
    unfold ltOf at *
    have a1 := of_decide_eq_false h1
    have a2 := of_decide_eq_false h2
    rw [ltW_iff] at a1 a2
    refine decide_eq_false fun h => ?_
    rw [ltW_iff] at h
    rcases ltW_tri x y with e | e | e
    · exact a1 e
    · rw [e] at h; exact a2 h
    · exact a2 (ltW_trans e h)
theorem cmpLaysW (blk off size : Nat) (w : World) : Go.Proofs.CmpLays Try.prog 84 #[] we 34 cmpW blk off size w :=
  fun _ _ _ _ x y => (order_any _ x y).mono fun _ _ h => h
abbrev OwnW (w : World) (v : Value) (l : List Wr) : Prop := St.Own 105 34 we w v l
set_option maxHeartbeats 1000000 in
theorem sortW_any (w : World) (v : Value) (els : List Wr) (h : OwnW w v els) (hm : els.length ≤ 1000000) (hn : els.Nodup) :
    Calls Try.prog 95 #[v, .func (.func 84) #[] #[]] w fun e w' =>
      e = .returned (.tuple #[]) ∧ ∃ ds, OwnW w' v ds ∧ ds.Pairwise ltW ∧ (∀ x, x ∈ ds ↔ x ∈ els) ∧ ds.length = els.length ∧ Keep (fun k => v.ownBlock = some k) w w' := by
  rcases h.form with ⟨rfl, rfl⟩ | ⟨g, c, rfl⟩
  · refine (Go.Proofs.AnyF.slices_SortFunc_none (P := Try.prog) (ρ := sortWr_ren) { sortWr with } none 0 (.func (.func 84) #[] #[]) w).mono ?_
    rintro e w' ⟨rfl, hw⟩
    rw [hw]
    exact ⟨rfl, [], h, List.Pairwise.nil, fun x => Iff.rfl, rfl, Keep.refl _ _⟩
  · obtain ⟨_, cur, hg, hnc, hc, hsz, ht⟩ := h.block
    have eg : ∀ args w, (callFunc 84 args).run Try.prog w = .ok (.enter 84 args) w := enters_of Try.func84 (by kernel_rfl) rfl
    have hs : els.toArray.size = els.length := List.size_toArray ..
    have hcon := Go.Proofs.AnyQ.slices_SortFunc sortWr 34 Try.isAgg105 Try.sizeOf105 we encW.len encW.one cmpW swoW 84 #[] g 0 c els.toArray w eg (cmpLaysW g 0 _ w) (h.holds encW) (lt_of_block hg) (by rw [hs]; omega)
    rw [hs] at hcon
    refine hcon.mono ?_
    rintro e w' ⟨rfl, d, m, os, hp, ho, rfl⟩
    rw [← hs] at hp ho
    obtain ⟨h1, h2, h3⟩ := St.sorted_of hp ho
    have hr : d.toList.Pairwise ltW := St.strict_of (h2.nodup_iff.2 hn) ltW_tri (fun i j a b hij hi hj => by rw [← ltW_iff]; exact h3 i j a b hij hi hj)
    exact ⟨rfl, d.toList, h.sorted encW m os d h1, hr, fun x => h2.mem_iff, by rw [Array.length_toList, h1], St.sortWorld_keep.mono (fun k _ e => by simp [Value.ownBlock, e])⟩
/-- What sorted comes to. -/
structure SrtPost (w : World) (b bl bo : Nat) (L : List Wr) (O : List Wd) (e : Ending) (w' : World) : Prop where
  ex : ∃ v ds, e = .returned v ∧ M (mfoot b bl bo) w w' [muI b bl bo L O, rW v ds] ∧ ds.Pairwise ltW ∧ (∀ x, x ∈ ds ↔ x ∈ L) ∧ ds.length = L.length
set_option maxRecDepth 100000 in
set_option maxHeartbeats 16000000 in
theorem sorted_any (w : World) (b bl bo : Nat) (L : List Wr) (O : List Wd) (h : MuAt w b bl bo L O) (hn : L.Nodup) (hL : L.length ≤ 1000) :
    Calls Try.prog 56 #[.pointer (some ⟨b, 0, none⟩)] w (SrtPost w b bl bo L O) := by
  have HM : Hid (M (mfoot b bl bo) w w [blk b (mc bl bo), mp okW wv bl (dL L), mp okI idv bo (dG O), rW (.slice none 0 0) []]) := h.all.nilR 105 34 we
  have HN : Hid (L.Nodup) := hn
  have HLl : Hid (L.length ≤ 1000) := hL
  clear h hn hL
  go_enter Try.func56, Try.ntmps56
  go_wp2_with (first | (go_at_call 58; refine (mnone _ b bl bo L O (mkMu (HM.out.take 3))).mono ?_; rintro e w1 ⟨rfl, h1⟩; replace h1 := h1.symm; subst h1; have c0 := HM.out.cell 0 rfl 0 (v := .map (some bl)) rfl) | (at_range; refine Mp.wl_range (ok := okW) (enc := wv) Try.underlying72 rfl rfl rfl (HM.out.get 1 rfl) ?_; intro w1 i1 k1 z1; have HM : Hid _ := M.toItr HM.out 1 rfl i1 k1 z1; clear i1 k1 z1; simp only [Act.put, List.setIfInBounds_toArray, List.set_cons_zero, List.set_cons_succ]))
  go_loopw [3] (fun s3 wr => ∃ (dn : List Wr) (todo : List (Wr × Value)) (cur : Option (Wr × Value)) (v : Value), s3 = v ∧ M (mfoot b bl bo) w wr [blk b (mc bl bo), itr okW wv w.heap.size bl (dL L) todo cur, mp okI idv bo (dG O), rW v dn] ∧ (dn ++ todo.map (·.1)).Perm L) (fun _ wr => leftN wr w.heap.size bl)
  case atStart => exact ⟨[], _, _, _, rfl, HM.out, by rw [dL_keys]; exact List.Perm.refl _⟩
  case round =>
    clear HM c0
    obtain ⟨dn, todo, cur, v, e1, hM, hP⟩ := hrel
    replace e1 := e1.symm
    subst e1
    have HM : Hid (M (mfoot b bl bo) w wr [blk b (mc bl bo), itr okW wv w.heap.size bl (dL L) todo cur, mp okI idv bo (dG O), rW v dn]) := hM
    have HP : Hid ((dn ++ todo.map (·.1)).Perm L) := hP
    have HLft : Hid (leftN wr w.heap.size bl = todo.length) := left_is (show Iter okW wv wr w.heap.size bl (dL L) todo cur from hM.get 1 rfl)
    have HKl : Hid (dn.length ≤ 1000) := by
      show _ ≤ _
      have h1 := hP.length_eq
      have h3 := HLl.out
      rw [List.length_append] at h1
      omega
    clear hM hP
    cases todo with
    | nil =>
      have hp : dn.Perm L := by
        have h1 := HP.out
        rwa [List.map_nil, List.append_nil] at h1
      have HKp : Hid (dn.Perm L) := hp
      have HKn : Hid (dn.Nodup) := hp.nodup_iff.2 HN.out
      clear hp
      go_wp2_with (first | (at_next; refine Mp.wl_next rfl rfl rfl (HM.out.get 1 rfl) (fun _ => ?_) (fun l1 p l2 w' e => by cases l1 <;> cases e); have HM : Hid _ := M.ofItr HM.out 1 rfl; simp only [Act.put, List.setIfInBounds_toArray, List.set_cons_zero, List.set_cons_succ]) | (go_at_call 95; refine (sortW_any _ v dn (HM.out.get 3 rfl) (by have := HKl.out; omega) HKn.out).mono ?_; rintro e w5 ⟨rfl, ds, h5, hr5, hm5, hl5, k5⟩; have HM : Hid _ := HM.out.appR 3 rfl h5 k5 (.inl rfl); have HR : Hid (ds.Pairwise ltW) := hr5; have HMm : Hid (∀ x, x ∈ ds ↔ x ∈ dn) := hm5; have HLn : Hid (ds.length = dn.length) := hl5; clear h5 hr5 hm5 hl5 k5))
      go_ret
      exact ⟨_, ds, rfl, packMu (HM.out.sub _ [3, 0, 1, 2] (by decide) rfl), HR.out, fun x => by rw [HMm.out, HKp.out.mem_iff], by rw [HLn.out, HKp.out.length_eq]⟩
    | cons p0 todo0 =>
      go_wp2_with (first | (at_next; refine Mp.wl_next rfl rfl rfl (HM.out.get 1 rfl) (fun e => by cases e) ?_; intro l1 p l2 w3 e3 i3 k3 z3; have HE3 : Hid _ := e3; have HM : Hid _ := M.stepItr HM.out 1 rfl i3 k3; clear e3 i3 k3 z3; simp only [Act.put, List.setIfInBounds_toArray, List.set_cons_zero, List.set_cons_succ]) | (refine Mp.wl_entry rfl rfl rfl (HM.out.get 1 rfl) ?_; simp only [Act.put, List.setIfInBounds_toArray, List.set_cons_zero, List.set_cons_succ]) | ((with_reducible refine at_alloc 105 ?_); refine St.wl_alloc tyW rfl rfl (by (try simp only [World.size_alloc]); rfl) ?_; simp only [Act.put, List.setIfInBounds_toArray, List.set_cons_zero, List.set_cons_succ]) | ((with_reducible refine at_store 105 ?_); refine St.wl_storeN (W := w3) tyW rfl rfl rfl rfl rfl (by (try simp only [World.size_alloc])) (show _ = Value.agg (we p.1).toArray from rfl) (we_sz p.1) rfl (encW.all p.1) ?_; have HM : Hid _ := HM.out.alloc (.cells (we p.1).toArray 105) rfl) | ((with_reducible refine at_load 105 ?_); refine St.wl_load tyW rfl rfl rfl (HM.out.range 4 rfl) (we_len p.1) ?_; simp only [Act.put, List.setIfInBounds_toArray, List.set_cons_zero, List.set_cons_succ]) | (refine St.wl_build slW (by decide) rfl rfl (we_len p.1) rfl ?_; have HM : Hid _ := HM.out.alloc (.cells (we p.1).toArray 105) (by first | rfl | simp only [World.size_alloc]); simp only [Act.put, List.setIfInBounds_toArray, List.set_cons_zero, List.set_cons_succ]) | (refine St.wl_app1 slW (by decide) rfl rfl rfl (HM.out.get 3 rfl) rfl (we_len p.1) (encW.all p.1) (HM.out.get 5 rfl) (by have := HKl.out; omega) ?_; intro v4 w4 h4 k4 g4; have HM : Hid _ := HM.out.appR 3 rfl h4 k4 g4; clear h4 k4 g4; simp only [Act.put, List.setIfInBounds_toArray, List.set_cons_zero, List.set_cons_succ]))
      have HTl : Hid ((p0 :: todo0).length = l1.length + l2.length + 1) := by
        rw [HE3.out, List.length_append, List.length_cons]
        exact rfl
      go_roundw
      case rel =>
        refine ⟨dn ++ [p.1], l1 ++ l2, some p, v4, rfl, HM.out.take 4, ?_⟩
        have h8 := HP.out
        rw [HE3.out] at h8
        refine List.Perm.trans ?_ h8
        simp only [List.map_append, List.map_cons, List.append_assoc, List.singleton_append]
        exact List.Perm.append_left _ List.perm_middle.symm
      case measure =>
        rw [left_is (HM.out.get 1 rfl), HLft.out, HTl.out, List.length_append]
        omega
end Mu
end Go.Proofs.Ytgpimeobkacniaa


namespace Go.Proofs.Ytgpimeobkacniaa
open Go.RowKit
namespace St
open Oct
section
variable {α : Type} {T t : TypeId} {n : Nat} {enc : α → List Value} {w : World} {Z : Array Value}
theorem zcells_len (Z : Array Value) (m : Nat) : (Builtin.zeroCells Z m).toList.length = m * Z.size := by
  unfold Builtin.zeroCells
  simp
theorem zcells_one (hz : 0 < Z.size) (h1 : Z.all (·.oneCell') = true) (m : Nat) : ∀ v ∈ (Builtin.zeroCells Z m).toList, v.oneCell' = true := by
  intro v hv
  unfold Builtin.zeroCells at hv
  simp only [Array.toList_map, List.mem_map] at hv
  obtain ⟨i, _, rfl⟩ := hv
  have h2 : i % Z.size < Z.size := Nat.mod_lt _ hz
  rw [getElem!_pos Z _ h2]
  exact (Array.all_eq_true_iff_forall_mem.1 h1) _ (Array.getElem_mem h2)
theorem Own.cut {g q c : Nat} {els : List α} (hE : Enc n enc) (h : Own T n enc w (.slice (some ⟨g, 0, none⟩) q c) els) {k : Nat} (hk : k ≤ q) : Own T n enc w (.slice (some ⟨g, 0, none⟩) k c) (els.take k) := by
  obtain ⟨hl, cur, hg, hn, hc, hsz, ht⟩ := h.block
  have hk' : k = (els.take k).length := by rw [List.length_take]; omega
  have e : cur.toList.take (k * n) = (els.take k).flatMap enc := by
    rw [← flat_take hE els k, ← ht, List.take_take, Nat.min_eq_left (Nat.mul_le_mul_right n hk)]
  have := Own.of (T := T) (els := els.take k) (cap := c) hE hg (by rw [← hk']; omega) hc hsz (by rw [← hk']; exact e)
  rwa [← hk'] at this
/-- 'clear(s[k:])' in a row of one's own. -/
theorem run_clear (hE : Enc n enc) (hT : Ty T n Z) (hZ : Z.size = n) (hn0 : 0 < n) (hZ1 : Z.all (·.oneCell') = true) (hsl : Try.prog.underlying t = some (.slice T)) {g q c k m c' : Nat} {els : List α} (hown : Own T n enc w (.slice (some ⟨g, 0, none⟩) q c) els) (hk : k + m = q) :
    ∃ w', (∀ ty, (Builtin.clear_ #[t] ty #[.slice (some ⟨g, k * n, none⟩) m c']).run Try.prog w = .ok (.tuple #[]) w') ∧ Own T n enc w' (.slice (some ⟨g, 0, none⟩) k c) (els.take k) ∧ Keep (fun b => b = g) w w' := by
  obtain ⟨hn, cur, hg, hnc, hc, hsz, ht⟩ := hown.block
  cases m with
  | zero => exact ⟨w, fun ty => by simp [Builtin.clear_, run_underlying hsl], hown.cut hE (by omega), Keep.refl _ _⟩
  | succ m =>
    have hcl : q * n ≤ cur.size := by rw [hsz]; exact Nat.mul_le_mul_right _ hnc
    have hzl : (Builtin.zeroCells Z (m + 1)).toList.length = (m + 1) * n := by rw [zcells_len, hZ]
    have hkm : k * n + (m + 1) * n = q * n := by rw [← Nat.add_mul, hk]
    have hst := run_storeCells_at Try.prog g (k * n) T (Builtin.zeroCells Z (m + 1)).toList 0 cur w hg (by rw [hzl]; omega) (zcells_one (by omega) hZ1 _)
    simp only [Nat.add_zero] at hst
    have hz := hT.zero w
    have hrun : ∀ ty, (Builtin.clear_ #[t] ty #[.slice (some ⟨g, k * n, none⟩) (m + 1) c']).run Try.prog w = .ok (.tuple #[]) (w.setRow g (cur.toList.take (k * n) ++ (Builtin.zeroCells Z (m + 1)).toList ++ cur.toList.drop (k * n + (Builtin.zeroCells Z (m + 1)).toList.length)).toArray) := fun ty => by
      simp [Builtin.clear_, run_underlying hsl, hz, Value.cells, hst]
    refine ⟨_, hrun, ?_, (Keep.refl _ _).setRow g _ (fun _ => rfl)⟩
    have h2 := hown.cut hE (k := k) (by omega)
    obtain ⟨hkl, cur', hg', _, _, _, ht'⟩ := h2.block
    rw [hg] at hg'
    cases hg'
    have := Own.of (T := T) (els := els.take k) (cap := c) (cur := (cur.toList.take (k * n) ++ (Builtin.zeroCells Z (m + 1)).toList ++ cur.toList.drop (k * n + (Builtin.zeroCells Z (m + 1)).toList.length)).toArray) hE (setRow_heap w g _ _ _ _ hg) (by rw [← hkl]; omega) hc ?_ ?_
    · rwa [← hkl] at this
    · simp only [List.size_toArray, List.length_append, List.length_take, List.length_drop, Array.length_toList, hzl]
      omega
    · rw [← hkl, List.toList_toArray, List.append_assoc, List.take_append, List.take_take, Nat.min_self, List.length_take, Array.length_toList, Nat.min_eq_left (by omega), Nat.sub_self, List.take_zero, List.append_nil, ht']
end
end St
namespace Mu
open Oct Ids Mp
open Mem (M It blk ids rows)
open Sq (dG addG put_dG look_G zeroB lnv map_nil okI pack own_idat wl_buildL at_load at_alloc at_store fill_cons ex_buildL it_key tyI)
/-- A pair's two cells. -/
def pr (p : Pr) : List Value := [.string p.1, .string p.2]
theorem encPr : St.Enc 2 pr := ⟨fun _ => rfl, fun x u hu => by
  unfold pr at hu
  simp only [List.mem_cons, List.not_mem_nil, or_false] at hu
  rcases hu with rfl | rfl <;> rfl⟩
abbrev pz : Array Value := #[.string ByteArray.empty, .string ByteArray.empty]
theorem tyPr : St.Ty 92 2 pz := ⟨⟨_, Try.underlying92, rfl⟩, by kernel_rfl, by kernel_rfl⟩
theorem slPr : SlT Try.prog 68 92 (.agg pz) 2 32 := SlT.mk' Try.underlying68 (by kernel_rfl) rfl (by omega)
abbrev pv (p : Pr) : Value := .agg (pr p).toArray
theorem built_pr (k v : ByteArray) : Try.prog.built 92 [(0, .string k), (1, .string v)] = some (pr (k, v)).toArray := by kernel_rfl
instance : DecidableEq Pr := fun x y => if h : x.1.toList = y.1.toList ∧ x.2.toList = y.2.toList then isTrue (Prod.ext (toList_inj h.1) (toList_inj h.2)) else isFalse fun e => h (by subst e; exact ⟨rfl, rfl⟩)
theorem eqin_pr (w : World) (x y : Pr) (n : Nat) : (Op.equalIn (n + 1 + 1) 92 (pv x) (pv y)).run Try.prog w = .ok (decide (x = y)) w := by
  have hS : Try.prog.underlying 92 = some (.struct (Try.prog.fieldsOf 92)) := by kernel_rfl
  have hp : Try.prog.stoodInHeld 92 = false := by kernel_rfl
  have u9 := Try.underlying9
  have k0 : ∀ (p : Pr) w, (part 9 (pr p).toArray 0).run Try.prog w = .ok (.string p.1) w := fun p w => by simp [part, strNo, pr]
  have k1 : ∀ (p : Pr) w, (part 9 (pr p).toArray 1).run Try.prog w = .ok (.string p.2) w := fun p w => by simp [part, strNo, pr]
  have e1 : ∀ w, (Op.equalIn (n + 1) 9 (.string x.1) (.string y.1)).run Try.prog w = .ok (x.1.toList == y.1.toList) w := fun w => run_equalIn_string w n _ x.1 y.1 u9
  have e2 : ∀ w, (Op.equalIn (n + 1) 9 (.string x.2) (.string y.2)).run Try.prog w = .ok (x.2.toList == y.2.toList) w := fun w => run_equalIn_string w n _ x.2 y.2 u9
  have hd : decide (x = y) = (x.1.toList == y.1.toList && x.2.toList == y.2.toList) := by
    rw [Bool.eq_iff_iff]
    simp only [Bool.and_eq_true, beq_iff_eq, decide_eq_true_eq]
    exact ⟨fun h => by subst h; exact ⟨rfl, rfl⟩, fun h => Prod.ext (toList_inj h.1) (toList_inj h.2)⟩
  rw [hd, run_equalIn_agg w (n + 1) 92 _ _ hS hp]
  simp only [Program.fieldsOf, Try.underlying92]
  have k0x := k0 x
  have k0y := k0 y
  have k1x := k1 x
  have k1y := k1 y
  clear k0 k1 hd
  generalize (pr x).toArray = X at *
  generalize (pr y).toArray = Y at *
  generalize (x.1.toList == y.1.toList) = bk at *
  generalize (x.2.toList == y.2.toList) = bw at *
  cases bk <;> cases bw <;> simp [Op.eqFields, k0x, k0y, k1x, k1y, e1, e2]
theorem eql_pr (w : World) (x y : Pr) : Sem.run Try.prog (binOp .eql 92 (pv x) (pv y)) w = .ok (.bool (decide (x = y))) w := by
  rw [run_eql_struct, eqin_pr]
  rfl
theorem neq_pr (w : World) (x y : Pr) : Sem.run Try.prog (binOp .neq 92 (pv x) (pv y)) w = .ok (.bool (!(decide (x = y)))) w := by
  rw [run_neq_struct, eqin_pr]
  rfl
theorem guard_pr (op : BinOp) (a b : Operand) (xs ys : Array Value) (w : World) : Sem.run Try.prog (eqGuard op 92 a b (.agg xs) (.agg ys)) w = .ok () w :=
  run_eqGuard_agg w op 92 a b xs ys (by kernel_rfl)
/-! What Compact leaves. -/
section
set_option linter.unusedSectionVars false
variable {α : Type} [DecidableEq α]
def stp (s : List α × Option α) (x : α) : List α × Option α := if s.2 = some x then s else (s.1 ++ [x], some x)
def cpt (l : List α) : List α := (l.foldl stp ([], none)).1
theorem cpt_nil : cpt ([] : List α) = [] := rfl
theorem fold_last (l : List α) : ∀ n, l.length = n → (l.foldl stp ([], none)).2 = l.getLast?
  | 0, h => by rw [List.eq_nil_of_length_eq_zero h]; rfl
  | n + 1, h => by
    have hne : l ≠ [] := fun e => by rw [e] at h; cases h
    obtain ⟨l', x, rfl⟩ : ∃ l' x, l = l' ++ [x] := ⟨l.dropLast, l.getLast hne, (List.dropLast_concat_getLast hne).symm⟩
    rw [List.foldl_append, List.getLast?_concat]
    show (stp _ x).2 = _
    unfold stp
    split
    · rename_i h; exact h
    · rfl
theorem cpt_snoc (l : List α) (x : α) : cpt (l ++ [x]) = if l.getLast? = some x then cpt l else cpt l ++ [x] := by
  unfold cpt
  rw [List.foldl_append]
  have e := fold_last l _ rfl
  revert e
  generalize l.foldl stp ([], none) = S
  intro e
  show (stp S x).1 = if l.getLast? = some x then S.1 else S.1 ++ [x]
  unfold stp
  rw [e]
  split <;> rfl
theorem last_take {l : List α} {p : Nat} {y : α} (hy : l[p]? = some y) : (l.take (p + 1)).getLast? = some y := by
  rw [List.take_add_one, hy]
  exact List.getLast?_concat
theorem cpt_rep {l : List α} {p : Nat} {x y : α} (hx : l[p + 1]? = some x) (hy : l[p]? = some y) (e : x = y) : cpt (l.take (p + 2)) = cpt (l.take (p + 1)) := by
  rw [List.take_add_one (i := p + 1), hx]
  show cpt (l.take (p + 1) ++ [x]) = _
  rw [cpt_snoc, last_take hy, e, if_pos rfl]
theorem cpt_new {l : List α} {p : Nat} {x y : α} (hx : l[p + 1]? = some x) (hy : l[p]? = some y) (e : x ≠ y) : cpt (l.take (p + 2)) = cpt (l.take (p + 1)) ++ [x] := by
  rw [List.take_add_one (i := p + 1), hx]
  show cpt (l.take (p + 1) ++ [x]) = _
  rw [cpt_snoc, last_take hy, if_neg (fun h => e (Option.some.inj h).symm)]
theorem cpt_take1 (l : List α) (h : 1 ≤ l.length) : cpt (l.take 1) = l.take 1 := by
  cases l with
  | nil => cases h
  | cons a l => rfl
theorem cpt_small (l : List α) (h : l.length < 2) : cpt l = l := by
  match l, h with
  | [], _ => rfl
  | [a], _ => rfl
  | a :: b :: l, h => simp at h; omega
theorem cpt_srt {r : α → α → Prop} (ht : ∀ a b c, r a b → r b c → r a c) (h3 : ∀ a b, r a b ∨ a = b ∨ r b a) (l : List α) : ∀ n, l.length = n → l.Pairwise (fun a b => ¬ r b a) → (cpt l).Pairwise r ∧ ∀ y, y ∈ cpt l ↔ y ∈ l
  | 0, h, _ => by
    rw [List.eq_nil_of_length_eq_zero h]
    exact ⟨List.Pairwise.nil, fun y => Iff.rfl⟩
  | n + 1, h, hw => by
    have hne : l ≠ [] := fun e => by rw [e] at h; cases h
    obtain ⟨l', x, rfl⟩ : ∃ l' x, l = l' ++ [x] := ⟨l.dropLast, l.getLast hne, (List.dropLast_concat_getLast hne).symm⟩
    rw [List.pairwise_append] at hw
    obtain ⟨h1, _, h2⟩ := hw
    obtain ⟨i1, i2⟩ := cpt_srt ht h3 l' n (by rw [List.length_append] at h; simpa using h) h1
    rw [cpt_snoc]
    split
    · rename_i hl
      have hm : x ∈ l' := List.mem_of_getLast? hl
      refine ⟨i1, fun y => ?_⟩
      rw [i2, List.mem_append, List.mem_singleton]
      exact ⟨.inl, fun h => h.elim id (fun e => e ▸ hm)⟩
    · rename_i hl
      refine ⟨?_, fun y => by rw [List.mem_append, i2, List.mem_append]⟩
      rw [List.pairwise_append]
      refine ⟨i1, by simp, fun y hy z hz => ?_⟩
      rw [List.mem_singleton.1 hz]
      have hy' := (i2 y).1 hy
      have hne' : l' ≠ [] := fun e => by rw [e] at hy'; cases hy'
      obtain ⟨l2, u, rfl⟩ : ∃ l2 u, l' = l2 ++ [u] := ⟨l'.dropLast, l'.getLast hne', (List.dropLast_concat_getLast hne').symm⟩
      rw [List.getLast?_concat] at hl
      have hux : r u x := by
        rcases h3 u x with h | h | h
        · exact h
        · exact absurd (by rw [h]) hl
        · exact absurd h (h2 u (by simp) x (by simp))
      rcases List.mem_append.1 hy' with hy2 | hy2
      · have hyu : ¬ r u y := (List.pairwise_append.1 h1).2.2 y hy2 u (by simp)
        rcases h3 y u with h | h | h
        · exact ht _ _ _ h hux
        · rw [h]; exact hux
        · exact absurd h hyu
      · rw [List.mem_singleton.1 hy2]
        exact hux
end
end Mu
end Go.Proofs.Ytgpimeobkacniaa


namespace Go.Proofs.Ytgpimeobkacniaa
open Go.RowKit
namespace Mu
open Oct Ids Mp
open Mem (M It blk ids rows)
abbrev OwnP (w : World) (v : Value) (l : List Pr) : Prop := St.Own 92 2 pr w v l
theorem rangeP {w : World} {g n c : Nat} {els : List Pr} (h : OwnP w (.slice (some ⟨g, 0, none⟩) n c) els) {i : Nat} {x : Pr} (hi : els[i]? = some x) : w.rangeAt g (i * 2) (pr x) := by
  obtain ⟨e, hat⟩ := St.Own.slice h
  rcases hat.lay with h0 | ⟨b, off, e, _, hr⟩
  · have := (List.getElem?_eq_some_iff.1 hi).1
    omega
  · cases e
    have := hr i x hi
    rwa [Nat.zero_add] at this
theorem wl_setP {ops : Array Oper} {rest : List Oper} {o : Oper} {a : Act} {w : World} {Q : Exit → Act → World → Prop} (hgd : o.guard = none) {x y : Operand} (ho : o.op = .store 92 x y) (hd : o.dst = none) {g q c k : Nat} {els : List Pr} (hown : OwnP w (.slice (some ⟨g, 0, none⟩) q c) els) (hx : a.eval x = .pointer (some ⟨g, k * 2, none⟩)) (hk : k < q) (u : Pr) {cs : Array Value} (hy : a.eval y = .agg cs) (hcs : (pr u).toArray = cs)
    (h : ∀ w', OwnP w' (.slice (some ⟨g, 0, none⟩) q c) (els.set k u) → Keep (fun b => b = g) w w' → wpList Try.prog ops Q rest a w') : wpList Try.prog ops Q (o :: rest) a w :=
  wpList_plain hgd fun _ hK => St.wp_set encPr tyPr ho hd hown hx hk u hy hcs fun w' h1 h2 => hK _ _ (h w' h1 h2)
set_option maxRecDepth 100000 in
set_option maxHeartbeats 2000000 in
theorem compactP_own (w : World) (g n c : Nat) (els : List Pr) (h : OwnP w (.slice (some ⟨g, 0, none⟩) n c) els) (hm : n ≤ 1000000) :
    Calls Try.prog 65 #[.slice (some ⟨g, 0, none⟩) n c] w fun e w' =>
      ∃ n', e = .returned (.slice (some ⟨g, 0, none⟩) n' c) ∧ OwnP w' (.slice (some ⟨g, 0, none⟩) n' c) (cpt els) ∧ Keep (fun k => k = g) w w' := by
  have hn := h.block.1
  have hnc := h.block.2.choose_spec.2.1
  have H : Hid _ := h
  clear h
  have HN : Hid (n = els.length) := hn
  by_cases h2 : n < 2
  · have he : cpt els = els := by
      rcases els with _ | ⟨a, _ | ⟨b, l⟩⟩
      · rfl
      · rfl
      · simp at hn; omega
    rw [he]
    clear he hn
    go_enter Try.func65, Try.ntmps65
    go_wp2
    go_ret
    exact ⟨_, rfl, H.out, Keep.refl _ _⟩
  · have Hs : Hid (cpt (els.take 1) = els.take 1) := cpt_take1 els (by omega)
    have hgd := guard_pr
    clear hn
    go_enter Try.func65, Try.ntmps65
    go_wp2
    go_loopw [3] (fun i wr => ∃ k : Nat, 1 ≤ k ∧ k ≤ n ∧ i = .int .i64 k ∧ Keep (fun _ => False) w wr ∧ cpt (els.take k) = els.take k) (fun i _ => n - (intOf i).toNat)
    case atStart => exact ⟨1, by omega, by omega, rfl, Keep.refl _ _, Hs.out⟩
    case round =>
      obtain ⟨k, hk1, hk, rfl, hkp, hs⟩ := hrel
      have HK : Hid _ := hkp
      have HS : Hid _ := hs
      clear hkp hs Hs
      by_cases hlt : k < n
      · obtain ⟨x, hx⟩ : ∃ x, els[k]? = some x := ⟨_, List.getElem?_eq_getElem (by rw [← HN.out]; omega)⟩
        obtain ⟨p, hp⟩ : ∃ p, k = p + 1 := ⟨k - 1, by omega⟩
        have hwp : IntKind.i64.wrap ((k : Int) - 1) = (p : Int) := by simp [IntKind.wrap, IntKind.bits, IntKind.signed]; omega
        have hpn : p < n := by omega
        obtain ⟨y, hy⟩ : ∃ y, els[p]? = some y := ⟨_, List.getElem?_eq_getElem (by rw [← HN.out]; omega)⟩
        have HO : Hid (OwnP wr (.slice (some ⟨g, 0, none⟩) n c) els) := H.out.keep HK.out (fun _ _ h => h)
        have R1 : Hid _ := rangeP HO.out hx
        have R2 : Hid _ := rangeP HO.out hy
        have hcmp : ∀ w, Sem.run Try.prog (binOp .eql 92 (pv x) (pv y)) w = .ok (.bool (decide (x = y))) w := fun w => eql_pr w x y
        have L1 : Hid ((pr x).length = 2) := rfl
        have L2 : Hid ((pr y).length = 2) := rfl
        have Hx : Hid _ := hx
        have Hy : Hid _ := hy
        have Hp : Hid (k = p + 1) := hp
        clear hx hy hp
        by_cases he : x = y
        · have HE : Hid _ := he
          have heb : decide (x = y) = true := decide_eq_true he
          rw [heb] at hcmp
          have S0 : Hid (cpt (els.take (k + 1)) = els.take k) := by
            have e := HS.out
            have e2 := Hx.out
            rw [Hp.out] at e e2 ⊢
            rw [← e]
            exact cpt_rep e2 Hy.out HE.out
          clear he heb
          go_wp2
          refine Txt.wp_region_text (fun _ => True) [0, 0, 0, 1, 0, 0, 0, 0, 1, 0] (by kernel_rfl) (by kernel_rfl) trivial ?_
          repeat (first
            | (refine Txt.tl_pure (v := ?_) (by rfl) ?_ ?_; rotate_left; (focus (intro _; go_simp; try with_reducible rfl)); simp only [Act.put, List.setIfInBounds_toArray, List.set_cons_zero, List.set_cons_succ])
            | (refine Txt.tl_skip (by rfl) trivial ?_; simp only [Act.put, List.setIfInBounds_toArray, List.set_cons_zero, List.set_cons_succ])
            | (refine Txt.tl_load (v := ?_) (by rfl) (by rfl) (by rfl) (by kernel_rfl) ?_ ?_; rotate_left; (focus (first | assumption | (go_simp; done) | (go_simp; with_reducible rfl))); simp only [Act.put, List.setIfInBounds_toArray, List.set_cons_zero, List.set_cons_succ])
            | (refine Txt.tl_alloc (by rfl) ?_; go_simp; refine ⟨by (first | exact Txt.Le.alloc_drew _ _ | exact Txt.Le.alloc _ _), ?_⟩))
          refine Txt.tl_loadRow (by rfl) (by rfl) (by rfl) R1.out (by rw [L1.out]; kernel_rfl) ?_
          simp only [Act.put, List.setIfInBounds_toArray, List.set_cons_zero, List.set_cons_succ]
          repeat (first
            | (refine Txt.tl_pure (v := ?_) (by rfl) ?_ ?_; rotate_left; (focus (intro _; go_simp; try with_reducible rfl)); simp only [Act.put, List.setIfInBounds_toArray, List.set_cons_zero, List.set_cons_succ])
            | (refine Txt.tl_skip (by rfl) trivial ?_; simp only [Act.put, List.setIfInBounds_toArray, List.set_cons_zero, List.set_cons_succ])
            | (refine Txt.tl_load (v := ?_) (by rfl) (by rfl) (by rfl) (by kernel_rfl) ?_ ?_; rotate_left; (focus (first | assumption | (go_simp; done) | (go_simp; with_reducible rfl))); simp only [Act.put, List.setIfInBounds_toArray, List.set_cons_zero, List.set_cons_succ])
            | (refine Txt.tl_alloc (by rfl) ?_; go_simp; refine ⟨by (first | exact Txt.Le.alloc_drew _ _ | exact Txt.Le.alloc _ _), ?_⟩))
          refine Txt.tl_loadRow (by rfl) (by rfl) (by rfl) R2.out (by rw [L2.out]; kernel_rfl) ?_
          simp only [Act.put, List.setIfInBounds_toArray, List.set_cons_zero, List.set_cons_succ]
          repeat (first
            | (refine Txt.tl_pure (v := ?_) (by rfl) ?_ ?_; rotate_left; (focus (intro _; go_simp; try with_reducible rfl)); simp only [Act.put, List.setIfInBounds_toArray, List.set_cons_zero, List.set_cons_succ])
            | (refine Txt.tl_skip (by rfl) trivial ?_; simp only [Act.put, List.setIfInBounds_toArray, List.set_cons_zero, List.set_cons_succ])
            | (refine Txt.tl_load (v := ?_) (by rfl) (by rfl) (by rfl) (by kernel_rfl) ?_ ?_; rotate_left; (focus (first | assumption | (go_simp; done) | (go_simp; with_reducible rfl))); simp only [Act.put, List.setIfInBounds_toArray, List.set_cons_zero, List.set_cons_succ])
            | (refine Txt.tl_alloc (by rfl) ?_; go_simp; refine ⟨by (first | exact Txt.Le.alloc_drew _ _ | exact Txt.Le.alloc _ _), ?_⟩))
          refine Txt.tl_nil ?_
          go_wp2
          have H0 : Hid (OwnP wr.drew (.slice (some ⟨g, 0, none⟩) n c) els) := HO.out.keep (Keep.refl _ _).drew (fun _ _ h => h)
          have K0 : Hid (Keep (fun b => b = g) w wr.drew) := HK.out.drew.mono (fun _ _ h => h.elim)
          have Hk : Hid (els.take k = cpt (els.take (k + 1))) := S0.out.symm
          clear R1 R2 L1 L2 HO HK hcmp hwp
          go_loopw [3, 5] (fun s3 s5 wv => ∃ (m j : Nat) (ds : List Pr), s3 = .int .i64 m ∧ s5 = .int .i64 j ∧ 1 ≤ j ∧ k + j ≤ n ∧ m + 1 ≤ k + j ∧ OwnP wv (.slice (some ⟨g, 0, none⟩) n c) ds ∧ ds.take m = cpt (els.take (k + j)) ∧ (∀ t, k + j ≤ t + 1 → ds[t]? = els[t]?) ∧ Keep (fun b => b = g) w wv) (fun _ s5 _ => n - (intOf s5).toNat)
          case atStart => exact ⟨k, 1, els, rfl, rfl, by omega, by omega, by omega, H0.out, Hk.out, fun _ _ => rfl, K0.out⟩
          case round =>
            obtain ⟨m, j, ds, rfl, rfl, hj1, hj, hmk, ho, ht, hd, hkw⟩ := hrel
            have HO : Hid _ := ho
            have HT : Hid _ := ht
            have HD : Hid _ := hd
            have HKw : Hid _ := hkw
            have Hdn : Hid (n = ds.length) := ho.block.1
            clear ho ht hd hkw
            by_cases hlj : k + j < n
            · obtain ⟨x2, hx2⟩ : ∃ x, els[k + j]? = some x := ⟨_, List.getElem?_eq_getElem (by rw [← HN.out]; omega)⟩
              obtain ⟨q, hq⟩ : ∃ q, j = q + 1 := ⟨j - 1, by omega⟩
              have hwq : IntKind.i64.wrap ((j : Int) - 1) = (q : Int) := by simp [IntKind.wrap, IntKind.bits, IntKind.signed]; omega
              have hqn : q < n - k := by omega
              have hjn : j < n - k := by omega
              have hmn : m < n := by omega
              obtain ⟨y2, hy2⟩ : ∃ y, els[k + q]? = some y := ⟨_, List.getElem?_eq_getElem (by rw [← HN.out]; omega)⟩
              have R1 : Hid (wr.rangeAt g (k * 2 + j * 2) (pr x2)) := by
                have := rangeP HO.out (i := k + j) (by rw [HD.out _ (by omega)]; exact hx2)
                show wr.rangeAt g (k * 2 + j * 2) (pr x2)
                rwa [Nat.add_mul] at this
              have R2 : Hid (wr.rangeAt g (k * 2 + q * 2) (pr y2)) := by
                have := rangeP HO.out (i := k + q) (by rw [HD.out _ (by omega)]; exact hy2)
                show wr.rangeAt g (k * 2 + q * 2) (pr y2)
                rwa [Nat.add_mul] at this
              have hcmp : ∀ w, Sem.run Try.prog (binOp .neq 92 (pv x2) (pv y2)) w = .ok (.bool (!(decide (x2 = y2)))) w := fun w => neq_pr w x2 y2
              have L1 : Hid ((pr x2).length = 2) := rfl
              have L2 : Hid ((pr y2).length = 2) := rfl
              have Hx2 : Hid (els[k + q + 1]? = some x2) := by show els[k + q + 1]? = some x2; rw [show k + q + 1 = k + j by omega]; exact hx2
              have Hy2 : Hid _ := hy2
              have HOd : Hid (OwnP wr.drew (.slice (some ⟨g, 0, none⟩) n c) ds) := HO.out.keep (Keep.refl _ _).drew (fun _ _ h => h)
              have Hjq : Hid (k + j = k + q + 1) := by show k + j = k + q + 1; omega
              clear hx2 hy2 hq
              by_cases he2 : x2 = y2
              · have HE2 : Hid _ := he2
                have heb : decide (x2 = y2) = true := decide_eq_true he2
                rw [heb] at hcmp
                clear he2 heb
                go_wp2
                refine Txt.wp_region_text (fun _ => True) [0, 0, 0, 1, 0, 0, 0, 0, 1, 0] (by kernel_rfl) (by kernel_rfl) trivial ?_
                repeat (first
                  | (refine Txt.tl_pure (v := ?_) (by rfl) ?_ ?_; rotate_left; (focus (intro _; go_simp; try with_reducible rfl)); simp only [Act.put, List.setIfInBounds_toArray, List.set_cons_zero, List.set_cons_succ])
                  | (refine Txt.tl_skip (by rfl) trivial ?_; simp only [Act.put, List.setIfInBounds_toArray, List.set_cons_zero, List.set_cons_succ])
                  | (refine Txt.tl_load (v := ?_) (by rfl) (by rfl) (by rfl) (by kernel_rfl) ?_ ?_; rotate_left; (focus (first | assumption | (go_simp; done) | (go_simp; with_reducible rfl))); simp only [Act.put, List.setIfInBounds_toArray, List.set_cons_zero, List.set_cons_succ])
                  | (refine Txt.tl_alloc (by rfl) ?_; go_simp; refine ⟨by (first | exact Txt.Le.alloc_drew _ _ | exact Txt.Le.alloc _ _), ?_⟩))
                refine Txt.tl_loadRow (by rfl) (by rfl) (by rfl) R1.out (by rw [L1.out]; kernel_rfl) ?_
                simp only [Act.put, List.setIfInBounds_toArray, List.set_cons_zero, List.set_cons_succ]
                repeat (first
                  | (refine Txt.tl_pure (v := ?_) (by rfl) ?_ ?_; rotate_left; (focus (intro _; go_simp; try with_reducible rfl)); simp only [Act.put, List.setIfInBounds_toArray, List.set_cons_zero, List.set_cons_succ])
                  | (refine Txt.tl_skip (by rfl) trivial ?_; simp only [Act.put, List.setIfInBounds_toArray, List.set_cons_zero, List.set_cons_succ])
                  | (refine Txt.tl_load (v := ?_) (by rfl) (by rfl) (by rfl) (by kernel_rfl) ?_ ?_; rotate_left; (focus (first | assumption | (go_simp; done) | (go_simp; with_reducible rfl))); simp only [Act.put, List.setIfInBounds_toArray, List.set_cons_zero, List.set_cons_succ])
                  | (refine Txt.tl_alloc (by rfl) ?_; go_simp; refine ⟨by (first | exact Txt.Le.alloc_drew _ _ | exact Txt.Le.alloc _ _), ?_⟩))
                refine Txt.tl_loadRow (by rfl) (by rfl) (by rfl) R2.out (by rw [L2.out]; kernel_rfl) ?_
                simp only [Act.put, List.setIfInBounds_toArray, List.set_cons_zero, List.set_cons_succ]
                repeat (first
                  | (refine Txt.tl_pure (v := ?_) (by rfl) ?_ ?_; rotate_left; (focus (intro _; go_simp; try with_reducible rfl)); simp only [Act.put, List.setIfInBounds_toArray, List.set_cons_zero, List.set_cons_succ])
                  | (refine Txt.tl_skip (by rfl) trivial ?_; simp only [Act.put, List.setIfInBounds_toArray, List.set_cons_zero, List.set_cons_succ])
                  | (refine Txt.tl_load (v := ?_) (by rfl) (by rfl) (by rfl) (by kernel_rfl) ?_ ?_; rotate_left; (focus (first | assumption | (go_simp; done) | (go_simp; with_reducible rfl))); simp only [Act.put, List.setIfInBounds_toArray, List.set_cons_zero, List.set_cons_succ])
                  | (refine Txt.tl_alloc (by rfl) ?_; go_simp; refine ⟨by (first | exact Txt.Le.alloc_drew _ _ | exact Txt.Le.alloc _ _), ?_⟩))
                refine Txt.tl_nil ?_
                go_wp2
                go_roundw
                case rel =>
                  refine ⟨m, j + 1, ds, rfl, rfl, by omega, by omega, by omega, HOd.out, ?_, fun t h => HD.out t (by omega), HKw.out.drew⟩
                  rw [HT.out, ← Nat.add_assoc, Hjq.out, ← cpt_rep Hx2.out Hy2.out HE2.out]
                case measure => simp [intOf]; omega
              · have HE2 : Hid _ := he2
                have heb : decide (x2 = y2) = false := decide_eq_false he2
                rw [heb] at hcmp
                clear he2 heb
                go_wp2
                refine Txt.wp_region_text (fun _ => True) [0, 0, 0, 1, 0, 0, 0, 0, 1, 0] (by kernel_rfl) (by kernel_rfl) trivial ?_
                repeat (first
                  | (refine Txt.tl_pure (v := ?_) (by rfl) ?_ ?_; rotate_left; (focus (intro _; go_simp; try with_reducible rfl)); simp only [Act.put, List.setIfInBounds_toArray, List.set_cons_zero, List.set_cons_succ])
                  | (refine Txt.tl_skip (by rfl) trivial ?_; simp only [Act.put, List.setIfInBounds_toArray, List.set_cons_zero, List.set_cons_succ])
                  | (refine Txt.tl_load (v := ?_) (by rfl) (by rfl) (by rfl) (by kernel_rfl) ?_ ?_; rotate_left; (focus (first | assumption | (go_simp; done) | (go_simp; with_reducible rfl))); simp only [Act.put, List.setIfInBounds_toArray, List.set_cons_zero, List.set_cons_succ])
                  | (refine Txt.tl_alloc (by rfl) ?_; go_simp; refine ⟨by (first | exact Txt.Le.alloc_drew _ _ | exact Txt.Le.alloc _ _), ?_⟩))
                refine Txt.tl_loadRow (by rfl) (by rfl) (by rfl) R1.out (by rw [L1.out]; kernel_rfl) ?_
                simp only [Act.put, List.setIfInBounds_toArray, List.set_cons_zero, List.set_cons_succ]
                repeat (first
                  | (refine Txt.tl_pure (v := ?_) (by rfl) ?_ ?_; rotate_left; (focus (intro _; go_simp; try with_reducible rfl)); simp only [Act.put, List.setIfInBounds_toArray, List.set_cons_zero, List.set_cons_succ])
                  | (refine Txt.tl_skip (by rfl) trivial ?_; simp only [Act.put, List.setIfInBounds_toArray, List.set_cons_zero, List.set_cons_succ])
                  | (refine Txt.tl_load (v := ?_) (by rfl) (by rfl) (by rfl) (by kernel_rfl) ?_ ?_; rotate_left; (focus (first | assumption | (go_simp; done) | (go_simp; with_reducible rfl))); simp only [Act.put, List.setIfInBounds_toArray, List.set_cons_zero, List.set_cons_succ])
                  | (refine Txt.tl_alloc (by rfl) ?_; go_simp; refine ⟨by (first | exact Txt.Le.alloc_drew _ _ | exact Txt.Le.alloc _ _), ?_⟩))
                refine Txt.tl_loadRow (by rfl) (by rfl) (by rfl) R2.out (by rw [L2.out]; kernel_rfl) ?_
                simp only [Act.put, List.setIfInBounds_toArray, List.set_cons_zero, List.set_cons_succ]
                repeat (first
                  | (refine Txt.tl_pure (v := ?_) (by rfl) ?_ ?_; rotate_left; (focus (intro _; go_simp; try with_reducible rfl)); simp only [Act.put, List.setIfInBounds_toArray, List.set_cons_zero, List.set_cons_succ])
                  | (refine Txt.tl_skip (by rfl) trivial ?_; simp only [Act.put, List.setIfInBounds_toArray, List.set_cons_zero, List.set_cons_succ])
                  | (refine Txt.tl_load (v := ?_) (by rfl) (by rfl) (by rfl) (by kernel_rfl) ?_ ?_; rotate_left; (focus (first | assumption | (go_simp; done) | (go_simp; with_reducible rfl))); simp only [Act.put, List.setIfInBounds_toArray, List.set_cons_zero, List.set_cons_succ])
                  | (refine Txt.tl_alloc (by rfl) ?_; go_simp; refine ⟨by (first | exact Txt.Le.alloc_drew _ _ | exact Txt.Le.alloc _ _), ?_⟩))
                refine Txt.tl_nil ?_
                go_wp2_with (first | (refine St.wl_load tyPr rfl rfl rfl R1.out rfl ?_; simp only [Act.put, List.setIfInBounds_toArray, List.set_cons_zero, List.set_cons_succ]) | (refine wl_setP rfl rfl rfl HOd.out rfl hmn x2 rfl rfl ?_; intro wz h1 h2; have H1 : Hid _ := h1; have K1 : Hid _ := h2; clear h1 h2))
                go_roundw
                case rel =>
                  refine ⟨m + 1, j + 1, ds.set m x2, rfl, rfl, by omega, by omega, by omega, H1.out, ?_, fun t h => ?_, HKw.out.drew.trans K1.out⟩
                  · rw [← Nat.add_assoc, Hjq.out, cpt_new Hx2.out Hy2.out HE2.out, ← Hjq.out, ← HT.out, List.take_add_one, List.take_set_of_le (Nat.le_refl _), List.getElem?_set_self (by rw [← Hdn.out]; exact hmn)]
                    rfl
                  · rw [List.getElem?_set_ne (by omega)]
                    exact HD.out t (by omega)
                case measure => simp [intOf]; omega
            · obtain ⟨w3, hcl, hown3, hkeep3⟩ := St.run_clear encPr tyPr rfl (by decide) (encPr.all (ByteArray.empty, ByteArray.empty)) Try.underlying68 (k := m) (m := n - m) (c' := c - m) HO.out (by omega)
              have H3 : Hid _ := hown3
              have K3 : Hid _ := hkeep3
              have hmn : m ≤ n := by omega
              have e : els.take (k + j) = els := List.take_of_length_le (by rw [← HN.out]; omega)
              have HT2 : Hid (ds.take m = cpt els) := by show ds.take m = cpt els; rw [HT.out, e]
              clear hown3 hkeep3 e
              go_wp2
              go_ret
              refine ⟨_, rfl, ?_, HKw.out.trans K3.out⟩
              rw [← HT2.out]
              exact H3.out
        · have HE : Hid _ := he
          have heb : decide (x = y) = false := decide_eq_false he
          rw [heb] at hcmp
          clear he heb
          go_wp2
          refine Txt.wp_region_text (fun _ => True) [0, 0, 0, 1, 0, 0, 0, 0, 1, 0] (by kernel_rfl) (by kernel_rfl) trivial ?_
          repeat (first
            | (refine Txt.tl_pure (v := ?_) (by rfl) ?_ ?_; rotate_left; (focus (intro _; go_simp; try with_reducible rfl)); simp only [Act.put, List.setIfInBounds_toArray, List.set_cons_zero, List.set_cons_succ])
            | (refine Txt.tl_skip (by rfl) trivial ?_; simp only [Act.put, List.setIfInBounds_toArray, List.set_cons_zero, List.set_cons_succ])
            | (refine Txt.tl_load (v := ?_) (by rfl) (by rfl) (by rfl) (by kernel_rfl) ?_ ?_; rotate_left; (focus (first | assumption | (go_simp; done) | (go_simp; with_reducible rfl))); simp only [Act.put, List.setIfInBounds_toArray, List.set_cons_zero, List.set_cons_succ])
            | (refine Txt.tl_alloc (by rfl) ?_; go_simp; refine ⟨by (first | exact Txt.Le.alloc_drew _ _ | exact Txt.Le.alloc _ _), ?_⟩))
          refine Txt.tl_loadRow (by rfl) (by rfl) (by rfl) R1.out (by rw [L1.out]; kernel_rfl) ?_
          simp only [Act.put, List.setIfInBounds_toArray, List.set_cons_zero, List.set_cons_succ]
          repeat (first
            | (refine Txt.tl_pure (v := ?_) (by rfl) ?_ ?_; rotate_left; (focus (intro _; go_simp; try with_reducible rfl)); simp only [Act.put, List.setIfInBounds_toArray, List.set_cons_zero, List.set_cons_succ])
            | (refine Txt.tl_skip (by rfl) trivial ?_; simp only [Act.put, List.setIfInBounds_toArray, List.set_cons_zero, List.set_cons_succ])
            | (refine Txt.tl_load (v := ?_) (by rfl) (by rfl) (by rfl) (by kernel_rfl) ?_ ?_; rotate_left; (focus (first | assumption | (go_simp; done) | (go_simp; with_reducible rfl))); simp only [Act.put, List.setIfInBounds_toArray, List.set_cons_zero, List.set_cons_succ])
            | (refine Txt.tl_alloc (by rfl) ?_; go_simp; refine ⟨by (first | exact Txt.Le.alloc_drew _ _ | exact Txt.Le.alloc _ _), ?_⟩))
          refine Txt.tl_loadRow (by rfl) (by rfl) (by rfl) R2.out (by rw [L2.out]; kernel_rfl) ?_
          simp only [Act.put, List.setIfInBounds_toArray, List.set_cons_zero, List.set_cons_succ]
          repeat (first
            | (refine Txt.tl_pure (v := ?_) (by rfl) ?_ ?_; rotate_left; (focus (intro _; go_simp; try with_reducible rfl)); simp only [Act.put, List.setIfInBounds_toArray, List.set_cons_zero, List.set_cons_succ])
            | (refine Txt.tl_skip (by rfl) trivial ?_; simp only [Act.put, List.setIfInBounds_toArray, List.set_cons_zero, List.set_cons_succ])
            | (refine Txt.tl_load (v := ?_) (by rfl) (by rfl) (by rfl) (by kernel_rfl) ?_ ?_; rotate_left; (focus (first | assumption | (go_simp; done) | (go_simp; with_reducible rfl))); simp only [Act.put, List.setIfInBounds_toArray, List.set_cons_zero, List.set_cons_succ])
            | (refine Txt.tl_alloc (by rfl) ?_; go_simp; refine ⟨by (first | exact Txt.Le.alloc_drew _ _ | exact Txt.Le.alloc _ _), ?_⟩))
          refine Txt.tl_nil ?_
          go_wp2
          go_roundw
          case rel =>
            refine ⟨k + 1, by omega, by omega, rfl, HK.out.drew, ?_⟩
            have e := HS.out
            have e2 := Hx.out
            rw [Hp.out] at e e2 ⊢
            rw [cpt_new e2 Hy.out HE.out, e, List.take_add_one (i := p + 1), e2]
            rfl
          case measure => simp [intOf]; omega
      · obtain rfl : k = n := by omega
        have e : els.take k = els := List.take_of_length_le (by rw [← HN.out]; exact Nat.le_refl _)
        go_wp2
        go_ret
        refine ⟨_, rfl, ?_, HK.out.mono (fun _ _ h => h.elim)⟩
        have := HS.out
        rw [e] at this
        rw [this]
        exact H.out.keep HK.out (fun _ _ h => h)
set_option maxRecDepth 100000 in
set_option maxHeartbeats 1000000 in
theorem compactP_nil (w : World) : Calls Try.prog 65 #[.slice none 0 0] w fun e w' => e = .returned (.slice none 0 0) ∧ w' = w := by
  go_enter Try.func65, Try.ntmps65
  go_wp2
  go_ret
  exact ⟨rfl, rfl⟩
theorem compactP_any (w : World) (v : Value) (els : List Pr) (h : OwnP w v els) (hm : els.length ≤ 1000000) :
    Calls Try.prog 65 #[v] w fun e w' => ∃ v', e = .returned v' ∧ OwnP w' v' (cpt els) ∧ v'.ownBlock = v.ownBlock ∧ Keep (fun k => v.ownBlock = some k) w w' := by
  rcases h.form with ⟨rfl, rfl⟩ | ⟨g, c, rfl⟩
  · refine (compactP_nil w).mono ?_
    rintro e w' ⟨rfl, hw⟩
    rw [hw]
    exact ⟨_, rfl, h, rfl, Keep.refl _ _⟩
  · refine (compactP_own w g _ c els h hm).mono ?_
    rintro e w' ⟨n', rfl, h1, h2⟩
    exact ⟨_, rfl, h1, rfl, h2.mono (fun k _ e => by simp [Value.ownBlock, e])⟩
end Mu
end Go.Proofs.Ytgpimeobkacniaa


namespace Go.Proofs.Ytgpimeobkacniaa
open Go.RowKit
def sortPr_ren : Go.Shelf.Ren := ⟨fun | 6 => 61 | 15 => 100 | 14 => 99 | 28 => 126 | 29 => 127 | 20 => 118 | 21 => 119 | 22 => 120 | 23 => 121 | 24 => 122 | 25 => 123 | 26 => 124 | 27 => 125 | 46 => 147 | 47 => 148 | 48 => 149 | 49 => 150 | 50 => 151 | 57 => 158 | n => n, fun | 22 => 68 | 24 => 92 | 25 => 110 | 3 => 3 | 39 => 151 | 0 => 0 | 53 => 177 | 55 => 179 | 4 => 4 | 46 => 170 | 45 => 169 | 50 => 174 | 5 => 5 | 9 => 9 | 66 => 192 | 70 => 196 | 76 => 202 | 77 => 203 | n => n, fun | n => n⟩
theorem sortPr : Go.Proofs.SlLaysF0.n6 Try.prog sortPr_ren := {
  mixed := by kernel_rfl
  f6 := ⟨Try.f61.name, by decide, Try.func61.trans (congrArg some (by kernel_rfl))⟩
  f14 := ⟨Try.f99.name, by decide, Try.func99.trans (congrArg some (by kernel_rfl))⟩
  f15 := Try.func100.trans (congrArg some (by kernel_rfl))
  f20 := ⟨Try.f118.name, by decide, Try.func118.trans (congrArg some (by kernel_rfl))⟩
  f21 := ⟨Try.f119.name, by decide, Try.func119.trans (congrArg some (by kernel_rfl))⟩
  f22 := ⟨Try.f120.name, by decide, Try.func120.trans (congrArg some (by kernel_rfl))⟩
  f23 := ⟨Try.f121.name, by decide, Try.func121.trans (congrArg some (by kernel_rfl))⟩
  f24 := ⟨Try.f122.name, by decide, Try.func122.trans (congrArg some (by kernel_rfl))⟩
  f25 := ⟨Try.f123.name, by decide, Try.func123.trans (congrArg some (by kernel_rfl))⟩
  f26 := ⟨Try.f124.name, by decide, Try.func124.trans (congrArg some (by kernel_rfl))⟩
  f27 := ⟨Try.f125.name, by decide, Try.func125.trans (congrArg some (by kernel_rfl))⟩
  f28 := Try.func126.trans (congrArg some (by kernel_rfl))
  f29 := Try.func127.trans (congrArg some (by kernel_rfl))
  f46 := ⟨Try.f147.name, by decide, Try.func147.trans (congrArg some (by kernel_rfl))⟩
  f47 := Try.func148.trans (congrArg some (by kernel_rfl))
  f48 := Try.func149.trans (congrArg some (by kernel_rfl))
  f49 := ⟨Try.f150.name, by decide, Try.func150.trans (congrArg some (by kernel_rfl))⟩
  f50 := ⟨Try.f151.name, by decide, Try.func151.trans (congrArg some (by kernel_rfl))⟩
  f57 := ⟨Try.f158.name, by decide, Try.func158.trans (congrArg some (by kernel_rfl))⟩
  t0 := Try.underlying0
  a0 := Try.isAgg0
  z0 := Try.sizeOf0
  v0 := Try.zeroValue0
  t3 := Try.underlying3
  a3 := Try.isAgg3
  z3 := Try.sizeOf3
  v3 := Try.zeroValue3
  t4 := Try.underlying4
  a4 := Try.isAgg4
  z4 := Try.sizeOf4
  v4 := Try.zeroValue4
  t5 := Try.underlying5
  a5 := Try.isAgg5
  z5 := Try.sizeOf5
  v5 := Try.zeroValue5
  t9 := Try.underlying9
  a9 := Try.isAgg9
  z9 := Try.sizeOf9
  v9 := Try.zeroValue9
  t22 := Try.underlying68
  a22 := Try.isAgg68
  z22 := Try.sizeOf68
  v22 := Try.zeroValue68
  t25 := Try.underlying110
  a25 := Try.isAgg110
  z25 := Try.sizeOf110
  v25 := Try.zeroValue110
  t39 := Try.underlying151
  a39 := Try.isAgg151
  z39 := Try.sizeOf151
  v39 := Try.zeroValue151
  t45 := Try.underlying169
  a45 := Try.isAgg169
  z45 := Try.sizeOf169
  v45 := Try.zeroValue169
  t46 := Try.underlying170
  a46 := Try.isAgg170
  z46 := Try.sizeOf170
  v46 := Try.zeroValue170
  t50 := Try.underlying174
  a50 := Try.isAgg174
  z50 := Try.sizeOf174
  v50 := Try.zeroValue174
  t53 := Try.underlying177
  a53 := Try.isAgg177
  z53 := Try.sizeOf177
  v53 := Try.zeroValue177
  t55 := Try.underlying179
  a55 := Try.isAgg179
  z55 := Try.sizeOf179
  v55 := Try.zeroValue179
  t66 := Try.underlying192
  a66 := Try.isAgg192
  z66 := Try.sizeOf192
  v66 := Try.zeroValue192
  t70 := Try.underlying196
  a70 := Try.isAgg196
  z70 := Try.sizeOf196
  v70 := Try.zeroValue196
  t76 := Try.underlying202
  a76 := Try.isAgg202
  z76 := Try.sizeOf202
  v76 := Try.zeroValue202
  t77 := Try.underlying203
  a77 := Try.isAgg203
  z77 := Try.sizeOf203
  v77 := Try.zeroValue203 }
namespace Mu
open Oct Ids Mp
open Mem (M It blk ids rows)
open Sq (dG addG put_dG look_G zeroB lnv map_nil okI pack own_idat wl_buildL at_load at_alloc at_store fill_cons ex_buildL it_key tyI)
def cmpP (x y : Pr) : Int := orL [cmpS x.1.toList y.1.toList, cmpS x.2.toList y.2.toList]
theorem cmpP_lt (x y : Pr) : cmpP x y < 0 ↔ ltP x y := by
  unfold cmpP ltP orL orL orL
  by_cases h1 : cmpS x.1.toList y.1.toList = 0
  · have e1 := toList_inj ((cmpS_zero _ _).1 h1)
    rw [if_neg (by simpa using h1)]
    by_cases h2 : cmpS x.2.toList y.2.toList = 0
    · rw [if_neg (by simpa using h2)]
      have e2 := (cmpS_zero _ _).1 h2
      rw [e1, e2, bl_irr, bl_irr]
      simp
    · rw [if_pos h2, cmpS_lt, e1, bl_irr]
      simp
  · rw [if_pos h1, cmpS_lt]
    constructor
    · exact fun h => .inl h
    · rintro (h | ⟨h, _⟩)
      · exact h
      · exact absurd ((cmpS_zero _ _).2 (by rw [h])) h1
theorem cell_p1 {w : World} {b : Nat} {p : Pr} {t : TypeId} {fr : Nat × Nat} (h : w.heap[b]? = some (.cells (pr p).toArray t fr)) : w.cell? ⟨b, 0, none⟩ = some (.string p.1) := by rw [cell_of h]; rfl
theorem cell_p2 {w : World} {b : Nat} {p : Pr} {t : TypeId} {fr : Nat × Nat} (h : w.heap[b]? = some (.cells (pr p).toArray t fr)) : w.cell? ⟨b, 1, none⟩ = some (.string p.2) := by rw [cell_of h]; rfl
set_option maxRecDepth 100000 in
set_option maxHeartbeats 4000000 in
theorem porder_any (w : World) (x y : Pr) : Calls Try.prog 62 #[pv x, pv y] w fun e w' => e = .returned (.int .i64 (cmpP x y)) ∧ Lay w w' := by
  have HM : Hid (M (fun _ => False) w _ [blk w.heap.size (.cells (pr x).toArray 92), blk (w.heap.size + 1) (.cells (pr y).toArray 92)]) := ((M.start _ w).alloc (.cells (pr x).toArray 92) rfl).alloc (.cells (pr y).toArray 92) (by simp)
  have HLy : Hid (Lay w _) := ((Lay.refl w).alloc (.cells (pr x).toArray 92)).alloc (.cells (pr y).toArray 92)
  have HS : Hid (∀ w', M (fun _ => False) w w' [blk w.heap.size (.cells (pr x).toArray 92), blk (w.heap.size + 1) (.cells (pr y).toArray 92)] → (w'.rangeAt w.heap.size 0 (pr x) ∧ w'.rangeAt (w.heap.size + 1) 0 (pr y))) := fun w' h => ⟨h.range 0 rfl, h.range 1 rfl⟩
  have Hk : Hid (∀ w, Calls Try.prog 64 #[.string x.1, .string y.1] w fun e w' => e = .returned (.int .i64 (cmpS x.1.toList y.1.toList)) ∧ w' = w) := fun w => strcmp_any w x.1 y.1
  have Hv : Hid (∀ w, Calls Try.prog 64 #[.string x.2, .string y.2] w fun e w' => e = .returned (.int .i64 (cmpS x.2.toList y.2.toList)) ∧ w' = w) := fun w => strcmp_any w x.2 y.2
  have HO : Hid (cmpP x y = orL [cmpS x.1.toList y.1.toList, cmpS x.2.toList y.2.toList]) := rfl
  generalize cmpS x.1.toList y.1.toList = a2 at Hk HO
  generalize cmpS x.2.toList y.2.toList = a3 at Hv HO
  have c1 := HM.out.drew.cell 0 rfl 0 (v := .string x.1) rfl
  have c2 := HM.out.drew.cell 1 rfl 0 (v := .string y.1) rfl
  go_enter Try.func62, Try.ntmps62
  go_wp2
  refine Txt.wp_region_text (fun w' => w'.rangeAt w.heap.size 0 (pr x) ∧ w'.rangeAt (w.heap.size + 1) 0 (pr y)) [0, 1, 0, 1, 4, 0, 2, 0, 2, 4, 3, 4, 0] (by kernel_rfl) (by kernel_rfl) (HS.out _ HM.out.drew) ?_
  have HM : Hid _ := HM.out.drew
  have HLy : Hid (Lay w _) := HLy.out.drew
  generalize ((w.alloc (.cells (pr x).toArray 92)).alloc (.cells (pr y).toArray 92)).drew = W at HM HLy c1 c2 ⊢
  (repeat (first | (refine Txt.tl_pure (v := ?_) (by rfl) ?_ ?_; rotate_left; (focus (intro _; go_simp; try with_reducible rfl)); simp only [Act.put, List.setIfInBounds_toArray, List.set_cons_zero, List.set_cons_succ]) | (refine Txt.tl_load (v := ?_) (by rfl) (by rfl) (by rfl) (by kernel_rfl) ?_ ?_; rotate_left; (focus assumption); simp only [Act.put, List.setIfInBounds_toArray, List.set_cons_zero, List.set_cons_succ]) | (refine Txt.tl_loadS (v := .string x.1) (by rfl) (by rfl) (by rfl) (by kernel_rfl) (fun _ h => h.1 0 _ rfl) ?_; simp only [Act.put, List.setIfInBounds_toArray, List.set_cons_zero, List.set_cons_succ]) | (refine Txt.tl_loadS (v := .string y.1) (by rfl) (by rfl) (by rfl) (by kernel_rfl) (fun _ h => h.2 0 _ rfl) ?_; simp only [Act.put, List.setIfInBounds_toArray, List.set_cons_zero, List.set_cons_succ]) | (refine Txt.tl_loadS (v := .string x.2) (by rfl) (by rfl) (by rfl) (by kernel_rfl) (fun _ h => h.1 1 _ rfl) ?_; simp only [Act.put, List.setIfInBounds_toArray, List.set_cons_zero, List.set_cons_succ]) | (refine Txt.tl_loadS (v := .string y.2) (by rfl) (by rfl) (by rfl) (by kernel_rfl) (fun _ h => h.2 1 _ rfl) ?_; simp only [Act.put, List.setIfInBounds_toArray, List.set_cons_zero, List.set_cons_succ])))
  refine Txt.tl_call Try.func64 (by kernel_rfl) (by kernel_rfl) (by rfl) (by rfl) (by rfl) (Hk.out _) ?_
  rintro e w2 ⟨rfl, h2⟩
  replace h2 := h2.symm
  subst h2
  refine ⟨_, rfl, HS.out _ HM.out, ?_⟩
  simp only [Act.put, List.setIfInBounds_toArray, List.set_cons_zero, List.set_cons_succ]
  (repeat (first | (refine Txt.tl_pure (v := ?_) (by rfl) ?_ ?_; rotate_left; (focus (intro _; go_simp; try with_reducible rfl)); simp only [Act.put, List.setIfInBounds_toArray, List.set_cons_zero, List.set_cons_succ]) | (refine Txt.tl_load (v := ?_) (by rfl) (by rfl) (by rfl) (by kernel_rfl) ?_ ?_; rotate_left; (focus assumption); simp only [Act.put, List.setIfInBounds_toArray, List.set_cons_zero, List.set_cons_succ]) | (refine Txt.tl_loadS (v := .string x.1) (by rfl) (by rfl) (by rfl) (by kernel_rfl) (fun _ h => h.1 0 _ rfl) ?_; simp only [Act.put, List.setIfInBounds_toArray, List.set_cons_zero, List.set_cons_succ]) | (refine Txt.tl_loadS (v := .string y.1) (by rfl) (by rfl) (by rfl) (by kernel_rfl) (fun _ h => h.2 0 _ rfl) ?_; simp only [Act.put, List.setIfInBounds_toArray, List.set_cons_zero, List.set_cons_succ]) | (refine Txt.tl_loadS (v := .string x.2) (by rfl) (by rfl) (by rfl) (by kernel_rfl) (fun _ h => h.1 1 _ rfl) ?_; simp only [Act.put, List.setIfInBounds_toArray, List.set_cons_zero, List.set_cons_succ]) | (refine Txt.tl_loadS (v := .string y.2) (by rfl) (by rfl) (by rfl) (by kernel_rfl) (fun _ h => h.2 1 _ rfl) ?_; simp only [Act.put, List.setIfInBounds_toArray, List.set_cons_zero, List.set_cons_succ])))
  refine Txt.tl_call Try.func64 (by kernel_rfl) (by kernel_rfl) (by rfl) (by rfl) (by rfl) (Hv.out _) ?_
  rintro e w2 ⟨rfl, h2⟩
  replace h2 := h2.symm
  subst h2
  refine ⟨_, rfl, HS.out _ HM.out, ?_⟩
  simp only [Act.put, List.setIfInBounds_toArray, List.set_cons_zero, List.set_cons_succ]
  (repeat (first | (refine Txt.tl_pure (v := ?_) (by rfl) ?_ ?_; rotate_left; (focus (intro _; go_simp; try with_reducible rfl)); simp only [Act.put, List.setIfInBounds_toArray, List.set_cons_zero, List.set_cons_succ]) | (refine Txt.tl_load (v := ?_) (by rfl) (by rfl) (by rfl) (by kernel_rfl) ?_ ?_; rotate_left; (focus assumption); simp only [Act.put, List.setIfInBounds_toArray, List.set_cons_zero, List.set_cons_succ]) | (refine Txt.tl_loadS (v := .string x.1) (by rfl) (by rfl) (by rfl) (by kernel_rfl) (fun _ h => h.1 0 _ rfl) ?_; simp only [Act.put, List.setIfInBounds_toArray, List.set_cons_zero, List.set_cons_succ]) | (refine Txt.tl_loadS (v := .string y.1) (by rfl) (by rfl) (by rfl) (by kernel_rfl) (fun _ h => h.2 0 _ rfl) ?_; simp only [Act.put, List.setIfInBounds_toArray, List.set_cons_zero, List.set_cons_succ]) | (refine Txt.tl_loadS (v := .string x.2) (by rfl) (by rfl) (by rfl) (by kernel_rfl) (fun _ h => h.1 1 _ rfl) ?_; simp only [Act.put, List.setIfInBounds_toArray, List.set_cons_zero, List.set_cons_succ]) | (refine Txt.tl_loadS (v := .string y.2) (by rfl) (by rfl) (by rfl) (by kernel_rfl) (fun _ h => h.2 1 _ rfl) ?_; simp only [Act.put, List.setIfInBounds_toArray, List.set_cons_zero, List.set_cons_succ])))
  refine Txt.tl_alloc (by rfl) ?_
  go_simp
  have HM : Hid _ := HM.out.alloc (.cells #[Value.int .i64 a2, .int .i64 a3] 3) rfl
  have HLy : Hid (Lay w _) := Lay.alloc HLy.out (.cells #[Value.int .i64 a2, .int .i64 a3] 3)
  refine ⟨⟨Txt.Le.alloc _ _, HS.out _ (HM.out.take 2)⟩, ?_⟩
  refine Txt.tl_call Try.func63 (by kernel_rfl) (by kernel_rfl) (by rfl) (by rfl) (by rfl) (or_any _ _ 2 2 [a2, a3] rfl (by decide) (int_cells (l := [a2, a3]) (HM.out.get 2 rfl))) ?_
  rintro e w3 ⟨rfl, h3⟩
  replace h3 := h3.symm
  subst h3
  refine ⟨_, rfl, HS.out _ (HM.out.take 2), ?_⟩
  simp only [Act.put, List.setIfInBounds_toArray, List.set_cons_zero, List.set_cons_succ]
  (repeat (first | (refine Txt.tl_pure (v := ?_) (by rfl) ?_ ?_; rotate_left; (focus (intro _; go_simp; try with_reducible rfl)); simp only [Act.put, List.setIfInBounds_toArray, List.set_cons_zero, List.set_cons_succ]) | (refine Txt.tl_load (v := ?_) (by rfl) (by rfl) (by rfl) (by kernel_rfl) ?_ ?_; rotate_left; (focus assumption); simp only [Act.put, List.setIfInBounds_toArray, List.set_cons_zero, List.set_cons_succ]) | (refine Txt.tl_loadS (v := .string x.1) (by rfl) (by rfl) (by rfl) (by kernel_rfl) (fun _ h => h.1 0 _ rfl) ?_; simp only [Act.put, List.setIfInBounds_toArray, List.set_cons_zero, List.set_cons_succ]) | (refine Txt.tl_loadS (v := .string y.1) (by rfl) (by rfl) (by rfl) (by kernel_rfl) (fun _ h => h.2 0 _ rfl) ?_; simp only [Act.put, List.setIfInBounds_toArray, List.set_cons_zero, List.set_cons_succ]) | (refine Txt.tl_loadS (v := .string x.2) (by rfl) (by rfl) (by rfl) (by kernel_rfl) (fun _ h => h.1 1 _ rfl) ?_; simp only [Act.put, List.setIfInBounds_toArray, List.set_cons_zero, List.set_cons_succ]) | (refine Txt.tl_loadS (v := .string y.2) (by rfl) (by rfl) (by rfl) (by kernel_rfl) (fun _ h => h.2 1 _ rfl) ?_; simp only [Act.put, List.setIfInBounds_toArray, List.set_cons_zero, List.set_cons_succ])))
  refine Txt.tl_nil ?_
  go_wp2
  go_ret
  exact ⟨by rw [HO.out]; rfl, HLy.out⟩
theorem swoP : Go.Sort.SWO (Go.Proofs.ltOf cmpP) where
  irrefl x := by
    unfold ltOf
    exact decide_eq_false fun h => ltP_irr x ((cmpP_lt x x).1 h)
  trans x y z h1 h2 := by
    unfold ltOf at *
    exact decide_eq_true ((cmpP_lt _ _).2 (ltP_trans ((cmpP_lt _ _).1 (of_decide_eq_true h1)) ((cmpP_lt _ _).1 (of_decide_eq_true h2))))
  ntrans x y z h1 h2 := by
    unfold ltOf at *
    have a1 := of_decide_eq_false h1
    have a2 := of_decide_eq_false h2
    rw [cmpP_lt] at a1 a2
    refine decide_eq_false fun h => ?_
    rw [cmpP_lt] at h
    rcases ltP_tri x y with e | e | e
    · exact a1 e
    · rw [e] at h; exact a2 h
    · exact a2 (ltP_trans e h)
theorem cmpLaysP (blk off size : Nat) (w : World) : Go.Proofs.CmpLays Try.prog 62 #[] pr 2 cmpP blk off size w :=
  fun _ _ _ _ x y => (porder_any _ x y).mono fun _ _ h => h
instance : Inhabited Pr := ⟨(ByteArray.empty, ByteArray.empty)⟩
set_option maxHeartbeats 1000000 in
theorem sortP_any (w : World) (v : Value) (els : List Pr) (h : OwnP w v els) (hm : els.length ≤ 1000000) :
    Calls Try.prog 61 #[v, .func (.func 62) #[] #[]] w fun e w' =>
      e = .returned (.tuple #[]) ∧ ∃ ds, OwnP w' v ds ∧ ds.Pairwise (fun a b => ¬ ltP b a) ∧ (∀ x, x ∈ ds ↔ x ∈ els) ∧ ds.length = els.length ∧ Keep (fun k => v.ownBlock = some k) w w' := by
  rcases h.form with ⟨rfl, rfl⟩ | ⟨g, c, rfl⟩
  · refine (Go.Proofs.AnyF.slices_SortFunc_none (P := Try.prog) (ρ := sortPr_ren) { sortPr with } none 0 (.func (.func 62) #[] #[]) w).mono ?_
    rintro e w' ⟨rfl, hw⟩
    rw [hw]
    exact ⟨rfl, [], h, List.Pairwise.nil, fun x => Iff.rfl, rfl, Keep.refl _ _⟩
  · obtain ⟨_, cur, hg, hnc, hc, hsz, ht⟩ := h.block
    have eg : ∀ args w, (callFunc 62 args).run Try.prog w = .ok (.enter 62 args) w := enters_of Try.func62 (by kernel_rfl) rfl
    have hs : els.toArray.size = els.length := List.size_toArray ..
    have hcon := Go.Proofs.AnyQ.slices_SortFunc sortPr 2 Try.isAgg92 Try.sizeOf92 pr encPr.len encPr.one cmpP swoP 62 #[] g 0 c els.toArray w eg (cmpLaysP g 0 _ w) (h.holds encPr) (lt_of_block hg) (by rw [hs]; omega)
    rw [hs] at hcon
    refine hcon.mono ?_
    rintro e w' ⟨rfl, d, m, os, hp, ho, rfl⟩
    rw [← hs] at hp ho
    obtain ⟨h1, h2, h3⟩ := St.sorted_of hp ho
    have hr : d.toList.Pairwise (fun a b => ¬ ltP b a) := by
      rw [List.pairwise_iff_getElem]
      intro i j hi hj hij
      rw [← cmpP_lt]
      exact h3 i j _ _ hij (List.getElem?_eq_getElem hi) (List.getElem?_eq_getElem hj)
    exact ⟨rfl, d.toList, h.sorted encPr m os d h1, hr, fun x => h2.mem_iff, by rw [Array.length_toList, h1], St.sortWorld_keep.mono (fun k _ e => by simp [Value.ownBlock, e])⟩
end Mu
end Go.Proofs.Ytgpimeobkacniaa


namespace Go.Proofs.Ytgpimeobkacniaa
open Go.RowKit
namespace Mu
open Oct Ids Mp
open Mem (M It blk ids rows)
open Sq (dG addG put_dG look_G zeroB lnv map_nil okI pack own_idat wl_buildL at_load at_alloc at_store fill_cons ex_buildL it_key tyI)
abbrev rP (v : Value) (l : List Pr) : It := rows 92 2 pr v l
def kv (x : Wr) : Pr := (x.k, x.v)
/-- One on its own, and what is left of a map. -/
theorem startMu {w : World} {b bl bo : Nat} {L : List Wr} {O : List Wd} (h : MuAt w b bl bo L O) : M (mfoot b bl bo) w w [muI b bl bo L O] :=
  M.start1 (x := muI b bl bo L O) h (fun k hk => by
    rcases hk with hk | hk | hk
    · exact (h.all.rng 0 _ rfl k hk).2
    · exact (h.all.rng 1 _ rfl k hk).2
    · exact (h.all.rng 2 _ rfl k hk).2)
/-- What List comes to. -/
structure LstPost (w : World) (b bl bo : Nat) (L : List Wr) (O : List Wd) (e : Ending) (w' : World) : Prop where
  ex : ∃ v l, e = .returned v ∧ M (mfoot b bl bo) w w' [muI b bl bo L O, rP v l] ∧ l.Pairwise ltP ∧ (∀ p, p ∈ l ↔ ∃ x ∈ L, kv x = p) ∧ l.length ≤ L.length
theorem cpt_len {α : Type} [DecidableEq α] (l : List α) : ∀ n, l.length = n → (cpt l).length ≤ n
  | 0, h => by rw [List.eq_nil_of_length_eq_zero h]; exact Nat.le_refl _
  | n + 1, h => by
    have hne : l ≠ [] := fun e => by rw [e] at h; cases h
    obtain ⟨l', x, rfl⟩ : ∃ l' x, l = l' ++ [x] := ⟨l.dropLast, l.getLast hne, (List.dropLast_concat_getLast hne).symm⟩
    have := cpt_len l' n (by rw [List.length_append] at h; simpa using h)
    rw [cpt_snoc]
    split
    · omega
    · rw [List.length_append]
      simpa using this
set_option maxRecDepth 100000 in
set_option maxHeartbeats 16000000 in
theorem mlist_any (w : World) (b bl bo : Nat) (L : List Wr) (O : List Wd) (h : MuAt w b bl bo L O) (hn : L.Nodup) (hL : L.length ≤ 1000) :
    Calls Try.prog 32 #[.pointer (some ⟨b, 0, none⟩)] w (LstPost w b bl bo L O) := by
  have HSo : Hid (Calls Try.prog 56 #[.pointer (some ⟨b, 0, none⟩)] w (SrtPost w b bl bo L O)) := sorted_any w b bl bo L O h hn hL
  have HLl : Hid (L.length ≤ 1000) := hL
  clear h hn hL
  go_enter Try.func32, Try.ntmps32
  go_wp2_with (first | (go_at_call 56; refine HSo.out.mono ?_; rintro e w1 ⟨v1, ds, rfl, m1, hr1, hm1, hl1⟩; obtain ⟨la, lc, el, _⟩ := (show St.Own 105 34 we w1 v1 ds from m1.get 1 rfl).any; subst el; have HM : Hid (M (mfoot b bl bo) w w1 [muI b bl bo L O, rW (.slice la ds.length lc) ds]) := m1; have HMm : Hid (∀ x, x ∈ ds ↔ x ∈ L) := hm1; have HDl : Hid (ds.length = L.length) := hl1; clear m1 hr1 hm1 hl1; obtain ⟨q, hq⟩ : ∃ q, ds.length = q := ⟨_, rfl⟩; have Hq : Hid (ds.length = q) := hq; rw [hq] at HM ⊢; clear hq))
  have HM : Hid (M (mfoot b bl bo) w w1 [muI b bl bo L O, rW (.slice la q lc) ds, rP (.slice none 0 0) []]) := HM.out.nilR 92 2 pr
  have hq1 : q ≤ 1000 := by have := HLl.out; have := Hq.out; have := HDl.out; omega
  go_loopw [3, 9] (fun s3 s9 wr => ∃ (k : Nat) (v : Value), k ≤ q ∧ s3 = v ∧ s9 = .int .i64 k ∧ M (mfoot b bl bo) w wr [muI b bl bo L O, rW (.slice la q lc) ds, rP v ((ds.take k).map kv)]) (fun _ s9 _ => q - (intOf s9).toNat)
  case atStart => exact ⟨0, _, Nat.zero_le _, rfl, by go_num, HM.out⟩
  case round =>
    clear HM
    obtain ⟨k, v, hk, e1, rfl, hM⟩ := hrel
    replace e1 := e1.symm
    subst e1
    have HM : Hid (M (mfoot b bl bo) w wr [muI b bl bo L O, rW (.slice la q lc) ds, rP v ((ds.take k).map kv)]) := hM
    clear hM
    by_cases hlt : k < q
    · obtain ⟨x, hx⟩ : ∃ x, ds[k]? = some x := ⟨_, List.getElem?_eq_getElem (by rw [Hq.out]; exact hlt)⟩
      obtain ⟨g0, o0, e0, _, hr0⟩ := (St.Own.slice (show St.Own 105 34 we wr (.slice la q lc) ds from HM.out.get 1 rfl)).2.lay.resolve_left (by have := Hq.out; omega)
      subst e0
      have R1 : Hid (wr.rangeAt g0 (o0 + k * 34) (we x)) := hr0 k x hx
      have HE : Hid ((ds.take (k + 1)).map kv = (ds.take k).map kv ++ [(x.k, x.v)]) := by
        show _ = _
        rw [List.take_add_one, hx, List.map_append]
        rfl
      have HKl : Hid (((ds.take k).map kv).length ≤ 1000) := by
        show _ ≤ _
        rw [List.length_map, List.length_take]
        omega
      have HM : Hid _ := HM.out.alloc (.cells (we x).toArray 105) (b := wr.heap.size) rfl
      have d32 := rng_wk (HM.out.range 3 rfl)
      have d33 := rng_wv (HM.out.range 3 rfl)
      clear hr0 hx
      go_wp2_with (first | ((with_reducible refine at_load 105 ?_); refine St.wl_load tyW rfl rfl rfl R1.out (we_len x) ?_; simp only [Act.put, List.setIfInBounds_toArray, List.set_cons_zero, List.set_cons_succ]) | ((with_reducible refine at_alloc 105 ?_); refine St.wl_alloc tyW rfl rfl (by (try simp only [World.size_alloc]); rfl) ?_; simp only [Act.put, List.setIfInBounds_toArray, List.set_cons_zero, List.set_cons_succ]) | ((with_reducible refine at_store 105 ?_); refine St.wl_storeN (W := wr) tyW rfl rfl rfl rfl rfl (by (try simp only [World.size_alloc])) (show _ = Value.agg (we x).toArray from rfl) (we_sz x) rfl (encW.all x) ?_) | (refine wl_buildL rfl rfl [(0, .string x.k), (1, .string x.v)] rfl (built_pr x.k x.v) ?_; simp only [Act.put, List.setIfInBounds_toArray, List.set_cons_zero, List.set_cons_succ]) | (refine St.wl_build slPr (by decide) rfl rfl (show (pr (x.k, x.v)).length = 2 from rfl) rfl ?_; have HM : Hid _ := HM.out.alloc (.cells (pr (x.k, x.v)).toArray 92) (by first | rfl | simp only [World.size_alloc]); simp only [Act.put, List.setIfInBounds_toArray, List.set_cons_zero, List.set_cons_succ]) | (refine St.wl_app1 slPr (by decide) rfl rfl rfl (HM.out.get 2 rfl) rfl (show (pr (x.k, x.v)).length = 2 from rfl) (encPr.all (x.k, x.v)) (HM.out.get 4 rfl) (by have := HKl.out; omega) ?_; intro v4 w4 h4 k4 g4; have HM : Hid _ := HM.out.appR 2 rfl h4 k4 g4; clear h4 k4 g4; simp only [Act.put, List.setIfInBounds_toArray, List.set_cons_zero, List.set_cons_succ]))
      go_roundw
      case rel => exact ⟨k + 1, _, by omega, rfl, by go_num, by rw [HE.out]; exact HM.out.take 3⟩
      case measure => simp [intOf]; omega
    · obtain rfl : k = q := by omega
      have HE : Hid ((ds.take k).map kv = ds.map kv) := by
        show _ = _
        rw [List.take_of_length_le (by rw [Hq.out]; exact Nat.le_refl _)]
      rw [HE.out] at HM
      have HKl : Hid ((ds.map kv).length ≤ 1000) := by
        show _ ≤ _
        rw [List.length_map, Hq.out]
        exact hq1
      go_wp2_with (first | (go_at_call 61; refine (sortP_any _ v _ (HM.out.get 2 rfl) (by have := HKl.out; omega)).mono ?_; rintro e w5 ⟨rfl, es, h5, hr5, hm5, hl5, k5⟩; have HM : Hid _ := HM.out.appR 2 rfl h5 k5 (.inl rfl); have HR : Hid (es.Pairwise (fun a b => ¬ ltP b a)) := hr5; have HMs : Hid (∀ x, x ∈ es ↔ x ∈ ds.map kv) := hm5; have HEl : Hid (es.length = (ds.map kv).length) := hl5; clear h5 hr5 hm5 hl5 k5) | (go_at_call 65; refine (compactP_any _ v es (HM.out.get 2 rfl) (by have := HKl.out; have := HEl.out; omega)).mono ?_; rintro e w6 ⟨v6, rfl, h6, g6, k6⟩; have HM : Hid _ := HM.out.appR 2 rfl h6 k6 (.inl g6); clear h6 k6 g6))
      go_ret
      obtain ⟨c1, c2⟩ := cpt_srt (r := ltP) (fun _ _ _ => ltP_trans) ltP_tri es _ rfl HR.out
      refine ⟨_, cpt es, rfl, HM.out.sub _ [0, 2] (by decide) rfl, c1, fun p => ?_, ?_⟩
      · rw [c2, HMs.out, List.mem_map]
        exact ⟨fun ⟨x, h1, h2⟩ => ⟨x, (HMm.out x).1 h1, h2⟩, fun ⟨x, h1, h2⟩ => ⟨x, (HMm.out x).2 h1, h2⟩⟩
      · have := cpt_len es _ rfl
        have := HEl.out
        rw [List.length_map] at this
        have := HDl.out
        omega
/-! Get. -/
def es1 (s : ByteArray) : List Value := [.string s]
theorem encS : St.Enc 1 es1 := ⟨fun _ => rfl, fun x u hu => by
  obtain rfl := List.mem_singleton.1 hu
  rfl⟩
theorem slS : SlT Try.prog 58 9 (.string ByteArray.empty) 1 16 := SlT.mk' Try.underlying58 (by kernel_rfl) rfl (by omega)
theorem run_build_s (w : World) (s : ByteArray) : (Instr.buildSlice 58 1 #[(0, .string s)]).run Try.prog w = .ok (.slice (some ⟨w.heap.size, 0, none⟩) 1 1) (w.alloc (.cells #[.string s] 9)) := by
  obtain ⟨i, hi, hz, hs, _⟩ := slS.info
  refine run_buildSlice (P := Try.prog) w _ 9 1 _ _ i (.string ByteArray.empty) slS.und hi hz (by rw [hs]; omega) (by rw [hs]; omega) ?_
  rw [hs]
  kernel_rfl
theorem wl_build_s {ops : Array Oper} {rest : List Oper} {o : Oper} {a : Act} {w : World} {Q : Exit → Act → World → Prop} (hgd : o.guard = none) {x : Operand} (ho : o.op = .buildSlice 58 1 #[(0, x)]) {s : ByteArray} (hx : a.eval x = .string s)
    (h : wpList Try.prog ops Q rest (a.put o.dst (.slice (some ⟨w.heap.size, 0, none⟩) 1 1)) (w.alloc (.cells #[.string s] 9))) : wpList Try.prog ops Q (o :: rest) a w :=
  wpList_plain hgd fun _ hK => by
    unfold Oper.wp execOp
    simp only [ho, Sem.run_bind, List.map_toArray, List.map_cons, List.map_nil, hx, run_build_s w s, Result.andThen_ok]
    exact hK _ _ h
abbrev rS (v : Value) (l : List ByteArray) : It := rows 9 1 es1 v l
def getL (l : List Pr) (key : ByteArray) : List ByteArray := (l.filter fun p => decide (p.1.toList = key.toList)).map (·.2)
theorem getL_in {l : List Pr} {k : Nat} {p : Pr} {key : ByteArray} (hp : l[k]? = some p) (h : p.1.toList = key.toList) : getL (l.take (k + 1)) key = getL (l.take k) key ++ [p.2] := by
  unfold getL
  rw [List.take_add_one, hp, List.filter_append, List.map_append]
  simp [h]
theorem getL_out {l : List Pr} {k : Nat} {p : Pr} {key : ByteArray} (hp : l[k]? = some p) (h : ¬ p.1.toList = key.toList) : getL (l.take (k + 1)) key = getL (l.take k) key := by
  unfold getL
  rw [List.take_add_one, hp, List.filter_append, List.map_append]
  simp [h]
theorem getL_len (l : List Pr) (key : ByteArray) : (getL l key).length ≤ l.length := by
  unfold getL
  rw [List.length_map]
  exact List.length_filter_le _ _
structure GetPost (w : World) (b bl bo : Nat) (L : List Wr) (O : List Wd) (key : ByteArray) (e : Ending) (w' : World) : Prop where
  ex : ∃ v l, e = .returned v ∧ M (mfoot b bl bo) w w' [muI b bl bo L O, rS v (getL l key)] ∧ l.Pairwise ltP ∧ (∀ p, p ∈ l ↔ ∃ x ∈ L, kv x = p) ∧ l.length ≤ L.length
set_option maxRecDepth 100000 in
set_option maxHeartbeats 16000000 in
theorem mget_any (w : World) (b bl bo : Nat) (L : List Wr) (O : List Wd) (h : MuAt w b bl bo L O) (hn : L.Nodup) (hL : L.length ≤ 1000) (key : ByteArray) :
    Calls Try.prog 28 #[.pointer (some ⟨b, 0, none⟩), .string key] w (GetPost w b bl bo L O key) := by
  have HSo : Hid (Calls Try.prog 32 #[.pointer (some ⟨b, 0, none⟩)] w (LstPost w b bl bo L O)) := mlist_any w b bl bo L O h hn hL
  have HLl : Hid (L.length ≤ 1000) := hL
  clear h hn hL
  go_enter Try.func28, Try.ntmps28
  go_wp2_with (first | (go_at_call 32; refine HSo.out.mono ?_; rintro e w1 ⟨v1, l, rfl, m1, hr1, hm1, hl1⟩; obtain ⟨la, lc, el, _⟩ := (show OwnP w1 v1 l from m1.get 1 rfl).any; subst el; have HM : Hid (M (mfoot b bl bo) w w1 [muI b bl bo L O, rP (.slice la l.length lc) l]) := m1; have HR : Hid (l.Pairwise ltP) := hr1; have HMm : Hid (∀ p, p ∈ l ↔ ∃ x ∈ L, kv x = p) := hm1; have HDl : Hid (l.length ≤ L.length) := hl1; clear m1 hr1 hm1 hl1; obtain ⟨q, hq⟩ : ∃ q, l.length = q := ⟨_, rfl⟩; have Hq : Hid (l.length = q) := hq; rw [hq] at HM ⊢; clear hq))
  have HM : Hid (M (mfoot b bl bo) w w1 [muI b bl bo L O, rP (.slice la q lc) l, rS (.slice none 0 0) []]) := HM.out.nilR 9 1 es1
  have hq1 : q ≤ 1000 := by have := HLl.out; have := Hq.out; have := HDl.out; omega
  go_loopw [5, 11] (fun s5 s11 wr => ∃ (k : Nat) (v : Value), k ≤ q ∧ s5 = v ∧ s11 = .int .i64 k ∧ M (mfoot b bl bo) w wr [muI b bl bo L O, rP (.slice la q lc) l, rS v (getL (l.take k) key)]) (fun _ s11 _ => q - (intOf s11).toNat)
  case atStart => exact ⟨0, _, Nat.zero_le _, rfl, by go_num, HM.out⟩
  case round =>
    clear HM
    obtain ⟨k, v, hk, e1, rfl, hM⟩ := hrel
    replace e1 := e1.symm
    subst e1
    have HM : Hid (M (mfoot b bl bo) w wr [muI b bl bo L O, rP (.slice la q lc) l, rS v (getL (l.take k) key)]) := hM
    clear hM
    by_cases hlt : k < q
    · obtain ⟨p, hp⟩ : ∃ x, l[k]? = some x := ⟨_, List.getElem?_eq_getElem (by rw [Hq.out]; exact hlt)⟩
      obtain ⟨g0, o0, e0, _, hr0⟩ := (St.Own.slice (show OwnP wr (.slice la q lc) l from HM.out.get 1 rfl)).2.lay.resolve_left (by have := Hq.out; omega)
      subst e0
      have R1 : Hid (wr.rangeAt g0 (o0 + k * 2) (pr p)) := hr0 k p hp
      have Hp : Hid (l[k]? = some p) := hp
      have HKl : Hid ((getL (l.take k) key).length ≤ 1000) := by
        show _ ≤ _
        have := getL_len (l.take k) key
        rw [List.length_take] at this
        omega
      have HM : Hid _ := HM.out.alloc (.cells (pr p).toArray 92) (b := wr.heap.size) rfl
      have d0 := HM.out.cell 3 rfl 0 (v := .string p.1) rfl
      have d1 := HM.out.cell 3 rfl 1 (v := .string p.2) rfl
      clear hr0 hp
      by_cases hkey : p.1.toList = key.toList
      · have HE : Hid _ := getL_in Hp.out hkey
        go_wp2_with (first | ((with_reducible refine at_load 92 ?_); refine St.wl_load tyPr rfl rfl rfl R1.out rfl ?_; simp only [Act.put, List.setIfInBounds_toArray, List.set_cons_zero, List.set_cons_succ]) | ((with_reducible refine at_alloc 92 ?_); refine St.wl_alloc tyPr rfl rfl (by (try simp only [World.size_alloc]); rfl) ?_; simp only [Act.put, List.setIfInBounds_toArray, List.set_cons_zero, List.set_cons_succ]) | ((with_reducible refine at_store 92 ?_); refine St.wl_storeN (W := wr) tyPr rfl rfl rfl rfl rfl (by (try simp only [World.size_alloc])) (show _ = Value.agg (pr p).toArray from rfl) rfl rfl (encPr.all p) ?_) | (refine wl_build_s rfl rfl rfl ?_; have HM : Hid _ := HM.out.alloc (.cells #[.string p.2] 9) (by first | rfl | simp only [World.size_alloc]); simp only [Act.put, List.setIfInBounds_toArray, List.set_cons_zero, List.set_cons_succ]) | (refine St.wl_app1z encS slS (by decide) rfl rfl rfl (HM.out.get 2 rfl) rfl p.2 (show _ = #[Value.string p.2] from rfl) (HM.out.get 4 rfl) (by have := HKl.out; omega) ?_; intro v4 w4 h4 k4 g4; have HM : Hid _ := HM.out.appR 2 rfl h4 k4 g4; clear h4 k4 g4; simp only [Act.put, List.setIfInBounds_toArray, List.set_cons_zero, List.set_cons_succ]))
        go_roundw
        case rel => exact ⟨k + 1, _, by omega, rfl, by go_num, by rw [HE.out]; exact HM.out.take 3⟩
        case measure => simp [intOf]; omega
      · have HE : Hid _ := getL_out Hp.out hkey
        have hkb : (p.1.toList == key.toList) = false := by simpa using hkey
        have hcmp : ∀ w, Sem.run Try.prog (binOp .eql 9 (.string p.1) (.string key)) w = .ok (.bool false) w := fun w => by
          rw [← hkb]
          rfl
        go_wp2_with (first | ((with_reducible refine at_load 92 ?_); refine St.wl_load tyPr rfl rfl rfl R1.out rfl ?_; simp only [Act.put, List.setIfInBounds_toArray, List.set_cons_zero, List.set_cons_succ]) | ((with_reducible refine at_alloc 92 ?_); refine St.wl_alloc tyPr rfl rfl (by (try simp only [World.size_alloc]); rfl) ?_; simp only [Act.put, List.setIfInBounds_toArray, List.set_cons_zero, List.set_cons_succ]) | ((with_reducible refine at_store 92 ?_); refine St.wl_storeN (W := wr) tyPr rfl rfl rfl rfl rfl (by (try simp only [World.size_alloc])) (show _ = Value.agg (pr p).toArray from rfl) rfl rfl (encPr.all p) ?_))
        go_roundw
        case rel => exact ⟨k + 1, _, by omega, rfl, by go_num, by rw [HE.out]; exact HM.out.take 3⟩
        case measure => simp [intOf]; omega
    · obtain rfl : k = q := by omega
      have HE : Hid (l.take k = l) := List.take_of_length_le (by rw [Hq.out]; exact Nat.le_refl _)
      rw [HE.out] at HM
      go_wp2
      go_ret
      exact ⟨_, l, rfl, HM.out.sub _ [0, 2] (by decide) rfl, HR.out, HMm.out, HDl.out⟩
end Mu
end Go.Proofs.Ytgpimeobkacniaa


namespace Go.Proofs.Ytgpimeobkacniaa
open Go.RowKit
namespace Mu
open Oct Ids Mp
open Mem (M It blk ids rows)
open OctRd (be_len)
open Sq (dG addG put_dG look_G zeroB lnv map_nil okI pack own_idat wl_buildL at_load at_alloc at_store fill_cons ex_buildL it_key tyI two flat_takeW)
/-! Ids. -/
def idsK (l : List Wr) (key : ByteArray) : List Wd := (l.filter fun x => decide (x.k.toList = key.toList)).map (·.u)
theorem idsK_in {l : List Wr} {k : Nat} {x : Wr} {key : ByteArray} (hx : l[k]? = some x) (h : x.k.toList = key.toList) : idsK (l.take (k + 1)) key = idsK (l.take k) key ++ [x.u] := by
  unfold idsK
  rw [List.take_add_one, hx, List.filter_append, List.map_append]
  simp [h]
theorem idsK_out {l : List Wr} {k : Nat} {x : Wr} {key : ByteArray} (hx : l[k]? = some x) (h : ¬ x.k.toList = key.toList) : idsK (l.take (k + 1)) key = idsK (l.take k) key := by
  unfold idsK
  rw [List.take_add_one, hx, List.filter_append, List.map_append]
  simp [h]
theorem idsK_len (l : List Wr) (key : ByteArray) : (idsK l key).length ≤ l.length := by
  unfold idsK
  rw [List.length_map]
  exact List.length_filter_le _ _
theorem mem_idsK (l : List Wr) (key : ByteArray) (u : Wd) : u ∈ idsK l key ↔ ∃ x ∈ l, x.k = key ∧ x.u = u := by
  unfold idsK
  simp only [List.mem_map, List.mem_filter, decide_eq_true_eq]
  exact ⟨fun ⟨x, ⟨h1, h2⟩, h3⟩ => ⟨x, h1, toList_inj h2, h3⟩, fun ⟨x, h1, h2, h3⟩ => ⟨x, ⟨h1, by rw [h2]⟩, h3⟩⟩
structure IdsPost (w : World) (b bl bo : Nat) (L : List Wr) (O : List Wd) (l : List Wd) (e : Ending) (w' : World) : Prop where
  ex : ∃ v, e = .returned v ∧ M (mfoot b bl bo) w w' [muI b bl bo L O, ids v l]
set_option maxRecDepth 100000 in
set_option maxHeartbeats 16000000 in
theorem mids_any (w : World) (b bl bo : Nat) (L : List Wr) (O : List Wd) (h : MuAt w b bl bo L O) (hn : L.Nodup) (hL : L.length ≤ 1000) (key : ByteArray) :
    Calls Try.prog 25 #[.pointer (some ⟨b, 0, none⟩), .string key] w (IdsPost w b bl bo L O (IdL.setL (idsK L key))) := by
  have HSo : Hid (Calls Try.prog 56 #[.pointer (some ⟨b, 0, none⟩)] w (SrtPost w b bl bo L O)) := sorted_any w b bl bo L O h hn hL
  have HLl : Hid (L.length ≤ 1000) := hL
  clear h hn hL
  go_enter Try.func25, Try.ntmps25
  go_wp2_with (first | (go_at_call 56; refine HSo.out.mono ?_; rintro e w1 ⟨v1, l, rfl, m1, hr1, hm1, hl1⟩; obtain ⟨la, lc, el, _⟩ := (show OwnW w1 v1 l from m1.get 1 rfl).any; subst el; have HM : Hid (M (mfoot b bl bo) w w1 [muI b bl bo L O, rW (.slice la l.length lc) l]) := m1; have HMm : Hid (∀ p, p ∈ l ↔ p ∈ L) := hm1; have HDl : Hid (l.length = L.length) := hl1; clear m1 hr1 hm1 hl1; obtain ⟨q, hq⟩ : ∃ q, l.length = q := ⟨_, rfl⟩; have Hq : Hid (l.length = q) := hq; rw [hq] at HM ⊢; clear hq))
  have HM : Hid (M (mfoot b bl bo) w w1 [muI b bl bo L O, rW (.slice la q lc) l, ids (.slice none 0 0) []]) := HM.out.nilI
  have hq1 : q ≤ 1000 := by have := HLl.out; have := Hq.out; have := HDl.out; omega
  go_loopw [5, 11] (fun s5 s11 wr => ∃ (k : Nat) (v : Value), k ≤ q ∧ s5 = v ∧ s11 = .int .i64 k ∧ M (mfoot b bl bo) w wr [muI b bl bo L O, rW (.slice la q lc) l, ids v (idsK (l.take k) key)]) (fun _ s11 _ => q - (intOf s11).toNat)
  case atStart => exact ⟨0, _, Nat.zero_le _, rfl, by go_num, HM.out⟩
  case round =>
    clear HM
    obtain ⟨k, v, hk, e1, rfl, hM⟩ := hrel
    replace e1 := e1.symm
    subst e1
    have HM : Hid (M (mfoot b bl bo) w wr [muI b bl bo L O, rW (.slice la q lc) l, ids v (idsK (l.take k) key)]) := hM
    clear hM
    by_cases hlt : k < q
    · obtain ⟨x, hp⟩ : ∃ x, l[k]? = some x := ⟨_, List.getElem?_eq_getElem (by rw [Hq.out]; exact hlt)⟩
      obtain ⟨g0, o0, e0, _, hr0⟩ := (St.Own.slice (show OwnW wr (.slice la q lc) l from HM.out.get 1 rfl)).2.lay.resolve_left (by have := Hq.out; omega)
      subst e0
      have R1 : Hid (wr.rangeAt g0 (o0 + k * 34) (we x)) := hr0 k x hp
      have Hp : Hid (l[k]? = some x) := hp
      have HU : Hid (x.u.length = 32) := x.hu
      have HKl : Hid ((idsK (l.take k) key).length ≤ 1000) := by
        show _ ≤ _
        have := idsK_len (l.take k) key
        rw [List.length_take] at this
        omega
      have HM : Hid _ := HM.out.alloc (.cells (we x).toArray 105) (b := wr.heap.size) rfl
      have d32 := rng_wk (HM.out.range 3 rfl)
      have RU : Hid _ := rng_wu (HM.out.range 3 rfl)
      clear hr0 hp
      by_cases hkey : x.k.toList = key.toList
      · have HE : Hid _ := idsK_in Hp.out hkey
        go_wp2_with (first | ((with_reducible refine at_load 105 ?_); refine St.wl_load tyW rfl rfl rfl R1.out (we_len x) ?_; simp only [Act.put, List.setIfInBounds_toArray, List.set_cons_zero, List.set_cons_succ]) | ((with_reducible refine at_alloc 105 ?_); refine St.wl_alloc tyW rfl rfl (by (try simp only [World.size_alloc]); rfl) ?_; simp only [Act.put, List.setIfInBounds_toArray, List.set_cons_zero, List.set_cons_succ]) | ((with_reducible refine at_store 105 ?_); refine St.wl_storeN (W := wr) tyW rfl rfl rfl rfl rfl (by (try simp only [World.size_alloc])) (show _ = Value.agg (we x).toArray from rfl) (we_sz x) rfl (encW.all x) ?_) | ((with_reducible refine at_load 35 ?_); refine Ids.wl_load rfl rfl rfl HU.out RU.out ?_; simp only [Act.put, List.setIfInBounds_toArray, List.set_cons_zero, List.set_cons_succ]) | (refine Ids.wl_build rfl rfl HU.out rfl ?_; have HM : Hid _ := HM.out.alloc (.cells (x.u.map bv).toArray 35) (by first | rfl | simp only [World.size_alloc]); simp only [Act.put, List.setIfInBounds_toArray, List.set_cons_zero, List.set_cons_succ]) | (refine Ids.wl_app1 rfl rfl rfl (HM.out.get 2 rfl) rfl HU.out (HM.out.get 4 rfl) (by have := HKl.out; omega) ?_; intro v4 w4 h4 k4 g4; have HM : Hid _ := HM.out.appI 2 rfl h4 k4 g4; clear h4 k4 g4; simp only [Act.put, List.setIfInBounds_toArray, List.set_cons_zero, List.set_cons_succ]))
        go_roundw
        case rel => exact ⟨k + 1, _, by omega, rfl, by go_num, by rw [HE.out]; exact HM.out.take 3⟩
        case measure => simp [intOf]; omega
      · have HE : Hid _ := idsK_out Hp.out hkey
        have hkb : (x.k.toList == key.toList) = false := by simpa using hkey
        have hcmp : ∀ w, Sem.run Try.prog (binOp .eql 9 (.string x.k) (.string key)) w = .ok (.bool false) w := fun w => by
          rw [← hkb]
          rfl
        go_wp2_with (first | ((with_reducible refine at_load 105 ?_); refine St.wl_load tyW rfl rfl rfl R1.out (we_len x) ?_; simp only [Act.put, List.setIfInBounds_toArray, List.set_cons_zero, List.set_cons_succ]) | ((with_reducible refine at_alloc 105 ?_); refine St.wl_alloc tyW rfl rfl (by (try simp only [World.size_alloc]); rfl) ?_; simp only [Act.put, List.setIfInBounds_toArray, List.set_cons_zero, List.set_cons_succ]) | ((with_reducible refine at_store 105 ?_); refine St.wl_storeN (W := wr) tyW rfl rfl rfl rfl rfl (by (try simp only [World.size_alloc])) (show _ = Value.agg (we x).toArray from rfl) (we_sz x) rfl (encW.all x) ?_))
        go_roundw
        case rel => exact ⟨k + 1, _, by omega, rfl, by go_num, by rw [HE.out]; exact HM.out.take 3⟩
        case measure => simp [intOf]; omega
    · obtain rfl : k = q := by omega
      have HE : Hid (l.take k = l) := List.take_of_length_le (by rw [Hq.out]; exact Nat.le_refl _)
      rw [HE.out] at HM
      have HSl : Hid (IdL.setL (idsK l key) = IdL.setL (idsK L key)) := IdL.setL_congr fun u => by
        rw [mem_idsK, mem_idsK]
        exact ⟨fun ⟨x, h1, h2⟩ => ⟨x, (HMm.out x).1 h1, h2⟩, fun ⟨x, h1, h2⟩ => ⟨x, (HMm.out x).2 h1, h2⟩⟩
      obtain ⟨va, vc, ev, _⟩ := (show Ids.Own wr v (idsK l key) from HM.out.get 2 rfl).at
      subst ev
      have HKl : Hid ((idsK l key).length ≤ 1000) := by
        show _ ≤ _
        have := idsK_len l key
        have := Hq.out
        omega
      obtain ⟨t, ht⟩ : ∃ t, (idsK l key).length = t := ⟨_, rfl⟩
      have Ht : Hid ((idsK l key).length = t) := ht
      rw [ht] at HM ⊢
      clear ht
      go_wp2_with (first | (go_at_call 57; refine (set_any _ va t vc (idsK l key) (own_idat (HM.out.get 2 rfl)) (by have := HKl.out; have := Ht.out; omega)).mono ?_; rintro e w2 ⟨v2, rfl, o2, k2, f2⟩; rw [HSl.out] at o2; have HM : Hid _ := HM.out.add (x := ids v2 (IdL.setL (idsK L key))) k2 o2 (fun k hk => ⟨f2 k hk, o2.lt hk⟩); clear o2 k2 f2))
      go_ret
      exact ⟨_, rfl, HM.out.sub _ [0, 3] (by decide) rfl⟩
end Mu
end Go.Proofs.Ytgpimeobkacniaa
