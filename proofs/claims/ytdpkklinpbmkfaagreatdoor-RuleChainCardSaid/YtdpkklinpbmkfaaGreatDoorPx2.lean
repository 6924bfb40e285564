/-
  The document's pen: out.
-/
import Derived.Test.YtdpkklinpbmkfaaGreatDoorPx1
set_option linter.unusedVariables false
set_option linter.unusedSimpArgs false
namespace Go.Proofs.YtdpkklinpbmkfaaGreatDoor
open Go.RowKit
namespace St
theorem At.tailIf {α : Type} {n : Nat} {enc : α → List Value} {w : World} {els : List α} {b k : Nat} (h : At n enc w (some ⟨b, 0, none⟩) k els) (j : Nat) (hj : j ≤ k) (c : Nat) (hkc : k ≤ c) : At n enc w (if c = j then some ⟨b, 0, none⟩ else some ⟨b, j * n, none⟩) (k - j) (els.drop j) := by
  by_cases e : c = j
  · rw [if_pos e, show k - j = 0 by omega, List.drop_eq_nil_of_le (by rw [h.len]; omega)]
    exact h.empty
  · rw [if_neg e]
    have := h.tail j hj
    rwa [Nat.zero_add] at this
end St
namespace Mem
theorem M.row0 {F : Nat → Prop} {w0 w : World} {l : List It} (h : M F w0 w l) {α : Type} {T : TypeId} {n : Nat} {enc : α → List Value} (hE : St.Enc n enc) {b : Nat} (hb : w.heap.size = b) : M F w0 (w.alloc (.cells #[] T)) (l ++ [rows T n enc (.slice (some ⟨b, 0, none⟩) 0 0) ([] : List α)]) := by
  subst hb
  exact h.add (x := rows T n enc (.slice (some ⟨w.heap.size, 0, none⟩) 0 0) []) ((Keep.refl _ _).alloc _) (St.own0 hE w) (fun k hk => by have e : w.heap.size = k := Option.some.inj hk; subst e; simp)
end Mem
namespace Px
open Oct Ids Gn Hd Pn
open Mem (M It blk ids rows)
/-- A row of one's own that has something. -/
theorem own_some {α : Type} {T : TypeId} {n : Nat} {enc : α → List Value} {w : World} {v : Value} {L : List α} (h : St.Own T n enc w v L) (h0 : 0 < L.length) : ∃ g c, v = .slice (some ⟨g, 0, none⟩) L.length c ∧ L.length ≤ c ∧ c ≤ maxLen ∧ St.At n enc w (some ⟨g, 0, none⟩) L.length L := by
  obtain ⟨_, hn | ⟨g, cap, cur, rfl, _, _, hlc, hcm, _⟩⟩ := h.own
  · have := hn.2; omega
  · obtain ⟨a, c, e, hat⟩ := h.any
    cases e
    exact ⟨g, cap, rfl, hlc, hcm, hat⟩
theorem own_cut {α : Type} {T : TypeId} {n : Nat} {enc : α → List Value} {w : World} {g q c : Nat} {L : List α} (h : St.Own T n enc w (.slice (some ⟨g, 0, none⟩) q c) L) (i : Nat) (hi : i ≤ q) : St.At n enc w (some ⟨g, 0, none⟩) i (L.take i) := by
  obtain ⟨rfl, hat⟩ := h.slice
  exact hat.cut i hi
theorem own_tl {α : Type} {T : TypeId} {n : Nat} {enc : α → List Value} {w : World} {g q c : Nat} {L : List α} (h : St.Own T n enc w (.slice (some ⟨g, 0, none⟩) q c) L) (p : Nat) (hp : p ≤ q) (hqc : q ≤ c) : St.At n enc w (if c = p then some ⟨g, 0, none⟩ else some ⟨g, p * n, none⟩) (q - p) (L.drop p) := by
  obtain ⟨rfl, hat⟩ := h.slice
  exact hat.tailIf p hp c hqc
theorem own_tl1 {α : Type} {T : TypeId} {enc : α → List Value} {w : World} {g q c : Nat} {L : List α} (h : St.Own T 1 enc w (.slice (some ⟨g, 0, none⟩) q c) L) (p : Nat) (hp : p ≤ q) (hqc : q ≤ c) : St.At 1 enc w (if c = p then some ⟨g, 0, none⟩ else some ⟨g, p, none⟩) (q - p) (L.drop p) := by
  have := own_tl h p hp hqc
  rwa [Nat.mul_one] at this
set_option maxRecDepth 100000 in
set_option maxHeartbeats 4000000 in
theorem xout (w : World) (b : Nat) (lv iv fv : Value) (L : List Wt) (lost : Int) (h : XAt w b lv iv fv L lost) (hl : L.length ≤ 1000) (i : Nat) (hi : i < L.length) :
    Calls Tryz.prog 60 #[.pointer (some ⟨b, 0, none⟩), .int .i64 i] w fun e w' => e = .returned (.tuple #[]) ∧ ∃ lv' iv' fv', M (xfoot b lv iv fv L) w w' [blk b (xc lv' iv' fv' lost), rH lv' (L.take i ++ L.drop (i + 1)), rI iv' (L.take i ++ L.drop (i + 1)), rF fv' (L.take i ++ L.drop (i + 1)), pars L] := by
  have HM : Hid (M (xfoot b lv iv fv L) w w (xit b lv iv fv L lost)) := h.all
  obtain ⟨g0, c0, e0, l0, m0, t0⟩ := own_some (show St.Own _ _ _ w lv L from h.all.get 1 rfl) (by omega)
  obtain ⟨g1, c1, e1, l1, m1, t1⟩ := own_some (show St.Own _ _ _ w iv L from h.all.get 2 rfl) (by omega)
  obtain ⟨g2, c2, e2, l2, m2, t2⟩ := own_some (show St.Own _ _ _ w fv L from h.all.get 3 rfl) (by omega)
  have HFt : Hid (∀ k, xfoot b lv iv fv L k → xfoot b lv iv fv L k) := fun _ h => h
  subst e0 e1 e2
  obtain ⟨q, hq⟩ : ∃ q, L.length = q := ⟨_, rfl⟩
  obtain ⟨p, hp⟩ : ∃ p, i + 1 = p := ⟨_, rfl⟩
  have HP : Hid (i + 1 = p) := hp
  rw [hq] at t0 t1 t2 l0 l1 l2 hl hi HM
  unfold maxLen at m0 m1 m2
  have hpw : IntKind.i64.wrap ((i : Int) + 1) = (p : Int) := by rw [IntWalk.i64_in _ (by omega)]; omega
  have hpq : (p : Int) ≤ (q : Int) := by omega
  have hiq : (i : Int) ≤ (q : Int) := by omega
  have hi0 : (i : Int) ≤ (c0 : Int) := by omega
  have hi1 : (i : Int) ≤ (c1 : Int) := by omega
  have hi2 : (i : Int) ≤ (c2 : Int) := by omega
  have hq0 : (q : Int) ≤ (c0 : Int) := by omega
  have hq1 : (q : Int) ≤ (c1 : Int) := by omega
  have hq2 : (q : Int) ≤ (c2 : Int) := by omega
  have HQ : Hid (L.length = q) := hq
  clear h t0 t1 t2 hq hp
  go_enter Tryz.func60, Tryz.ntmps60
  go_wp2
  have d0 := HM.out.drew.cell 0 rfl 0 (v := .slice (some ⟨g0, 0, none⟩) q c0) rfl
  refine Txt.wp_region_text1 (fun w' => w'.cell? ⟨b, 0, none⟩ = some (.slice (some ⟨g0, 0, none⟩) q c0)) [0, 3, 0, 0, 0, 2, 0, 0, 4, 0, 0, 0, 2, 0, 0, 0, 4, 0, 0, 4] (by kernel_rfl) (by kernel_rfl) d0 ?_
  clear d0
  simp only [List.dropLast]
  have HM : Hid _ := HM.out.drew
  (repeat (first | (refine Txt.tl_pure (v := ?_) (by rfl) ?_ ?_; rotate_left; (focus (intro _; go_simp; try with_reducible rfl)); simp only [Act.put, List.setIfInBounds_toArray, List.set_cons_zero, List.set_cons_succ]) | (refine Txt.tl_load (v := ?_) (by rfl) (by rfl) (by rfl) (by kernel_rfl) ?_ ?_; rotate_left; (focus assumption); simp only [Act.put, List.setIfInBounds_toArray, List.set_cons_zero, List.set_cons_succ]) | (refine Txt.tl_loadS (v := ?_) (by rfl) (by rfl) (by rfl) (by kernel_rfl) ?_ ?_; rotate_left; (focus (exact fun _ h => h)); simp only [Act.put, List.setIfInBounds_toArray, List.set_cons_zero, List.set_cons_succ])))
  refine Txt.tl_alloc (by rfl) ?_
  refine St.wp_build0z slH rfl ?_
  have HM : Hid _ := Mem.M.row0 HM.out (T := 30) encH rfl
  refine ⟨⟨Txt.Le.alloc _ _, HM.out.cell 0 rfl 0 rfl⟩, ?_⟩
  simp only [Act.put, List.setIfInBounds_toArray, List.set_cons_zero, List.set_cons_succ]
  (repeat (first | (refine Txt.tl_pure (v := ?_) (by rfl) ?_ ?_; rotate_left; (focus (intro _; go_simp; try with_reducible rfl)); simp only [Act.put, List.setIfInBounds_toArray, List.set_cons_zero, List.set_cons_succ]) | (refine Txt.tl_load (v := ?_) (by rfl) (by rfl) (by rfl) (by kernel_rfl) ?_ ?_; rotate_left; (focus assumption); simp only [Act.put, List.setIfInBounds_toArray, List.set_cons_zero, List.set_cons_succ]) | (refine Txt.tl_loadS (v := ?_) (by rfl) (by rfl) (by rfl) (by kernel_rfl) ?_ ?_; rotate_left; (focus (exact fun _ h => h)); simp only [Act.put, List.setIfInBounds_toArray, List.set_cons_zero, List.set_cons_succ])))
  refine Txt.tl_loadS (v := .slice (some ⟨g0, 0, none⟩) q c0) (ty := 22) (by rfl) (by rfl) (by rfl) (by kernel_rfl) (fun _ h => h) ?_
  simp only [Act.put, List.setIfInBounds_toArray, List.set_cons_zero, List.set_cons_succ]
  (repeat (first | (refine Txt.tl_pure (v := ?_) (by rfl) ?_ ?_; rotate_left; (focus (intro _; go_simp; try with_reducible rfl)); simp only [Act.put, List.setIfInBounds_toArray, List.set_cons_zero, List.set_cons_succ]) | (refine Txt.tl_load (v := ?_) (by rfl) (by rfl) (by rfl) (by kernel_rfl) ?_ ?_; rotate_left; (focus assumption); simp only [Act.put, List.setIfInBounds_toArray, List.set_cons_zero, List.set_cons_succ]) | (refine Txt.tl_loadS (v := ?_) (by rfl) (by rfl) (by rfl) (by kernel_rfl) ?_ ?_; rotate_left; (focus (exact fun _ h => h)); simp only [Act.put, List.setIfInBounds_toArray, List.set_cons_zero, List.set_cons_succ])))
  refine Txt.tl_loud (by rfl) ?_
  refine St.wp_appRz encH slH (by decide) rfl rfl (HM.out.get 5 rfl) rfl (own_cut (HM.out.get 1 rfl) i (by omega)) (by simp; omega) ?_
  intro v6 w6 h6 k6 g6
  have HM : Hid _ := HM.out.appR 5 rfl h6 k6 g6
  clear h6 k6 g6
  refine ⟨HM.out.cell 0 rfl 0 rfl, ?_⟩
  simp only [Act.put, List.setIfInBounds_toArray, List.set_cons_zero, List.set_cons_succ]
  (repeat (first | (refine Txt.tl_pure (v := ?_) (by rfl) ?_ ?_; rotate_left; (focus (intro _; go_simp; try with_reducible rfl)); simp only [Act.put, List.setIfInBounds_toArray, List.set_cons_zero, List.set_cons_succ]) | (refine Txt.tl_load (v := ?_) (by rfl) (by rfl) (by rfl) (by kernel_rfl) ?_ ?_; rotate_left; (focus assumption); simp only [Act.put, List.setIfInBounds_toArray, List.set_cons_zero, List.set_cons_succ]) | (refine Txt.tl_loadS (v := ?_) (by rfl) (by rfl) (by rfl) (by kernel_rfl) ?_ ?_; rotate_left; (focus (exact fun _ h => h)); simp only [Act.put, List.setIfInBounds_toArray, List.set_cons_zero, List.set_cons_succ])))
  refine Txt.tl_loadS (v := .slice (some ⟨g0, 0, none⟩) q c0) (ty := 22) (by rfl) (by rfl) (by rfl) (by kernel_rfl) (fun _ h => h) ?_
  simp only [Act.put, List.setIfInBounds_toArray, List.set_cons_zero, List.set_cons_succ]
  (repeat (first | (refine Txt.tl_pure (v := ?_) (by rfl) ?_ ?_; rotate_left; (focus (intro _; go_simp; try with_reducible rfl)); simp only [Act.put, List.setIfInBounds_toArray, List.set_cons_zero, List.set_cons_succ]) | (refine Txt.tl_load (v := ?_) (by rfl) (by rfl) (by rfl) (by kernel_rfl) ?_ ?_; rotate_left; (focus assumption); simp only [Act.put, List.setIfInBounds_toArray, List.set_cons_zero, List.set_cons_succ]) | (refine Txt.tl_loadS (v := ?_) (by rfl) (by rfl) (by rfl) (by kernel_rfl) ?_ ?_; rotate_left; (focus (exact fun _ h => h)); simp only [Act.put, List.setIfInBounds_toArray, List.set_cons_zero, List.set_cons_succ])))
  refine Txt.tl_loud (by rfl) ?_
  refine St.wp_appRz encH slH (by decide) rfl rfl (HM.out.get 5 rfl) rfl (own_tl (HM.out.get 1 rfl) p (by omega) (by omega)) (by simp; omega) ?_
  intro v7 w7 h7 k7 g7
  obtain ⟨a7, c7, e7, _⟩ := h7.any
  subst e7
  have HM : Hid _ := HM.out.appR 5 rfl h7 k7 g7
  clear h7 k7 g7
  refine ⟨HM.out.cell 0 rfl 0 rfl, ?_⟩
  simp only [Act.put, List.setIfInBounds_toArray, List.set_cons_zero, List.set_cons_succ]
  (repeat (first | (refine Txt.tl_pure (v := ?_) (by rfl) ?_ ?_; rotate_left; (focus (intro _; go_simp; try with_reducible rfl)); simp only [Act.put, List.setIfInBounds_toArray, List.set_cons_zero, List.set_cons_succ]) | (refine Txt.tl_load (v := ?_) (by rfl) (by rfl) (by rfl) (by kernel_rfl) ?_ ?_; rotate_left; (focus assumption); simp only [Act.put, List.setIfInBounds_toArray, List.set_cons_zero, List.set_cons_succ]) | (refine Txt.tl_loadS (v := ?_) (by rfl) (by rfl) (by rfl) (by kernel_rfl) ?_ ?_; rotate_left; (focus (exact fun _ h => h)); simp only [Act.put, List.setIfInBounds_toArray, List.set_cons_zero, List.set_cons_succ])))
  refine Txt.tl_nil ?_
  refine Txt.tl_last (by rfl) (by rfl) ?_
  have f0 := HM.out.free 0 rfl 0
  have d0 := HM.out.cell 0 rfl 0 (v := .slice (some ⟨g0, 0, none⟩) q c0) rfl
  go_simp
  obtain ⟨v0, hv0⟩ : ∃ v, Value.slice a7 (L.take i ++ L.drop p).length c7 = v := ⟨_, rfl⟩
  have hv0' := hv0
  rw [List.length_append, List.length_take, List.length_drop] at hv0'
  have HM := HM.out.setc 0 rfl 0 (.slice a7 (L.take i ++ L.drop p).length c7)
  rw [hv0] at HM
  rw [List.nil_append, hv0] at HM
  rw [hv0']
  have HM : Hid (M (xfoot b (.slice (some ⟨g0, 0, none⟩) q c0) (.slice (some ⟨g1, 0, none⟩) q c1) (.slice (some ⟨g2, 0, none⟩) q c2) L) w (w7.setCell ⟨b, 0, none⟩ v0) [blk b (xc v0 (.slice (some ⟨g1, 0, none⟩) q c1) (.slice (some ⟨g2, 0, none⟩) q c2) lost), rH v0 (L.take i ++ L.drop p), rI (.slice (some ⟨g1, 0, none⟩) q c1) L, rF (.slice (some ⟨g2, 0, none⟩) q c2) L, pars L]) := HM.sub _ [0, 5, 2, 3, 4] (by decide) rfl
  clear hv0 hv0' f0 d0
  generalize (if c0 = p then (some ⟨g0, 0, none⟩ : Option Addr) else some ⟨g0, p * 38, none⟩) = z0
  go_wp2
  have d0 := HM.out.drew.cell 0 rfl 1 (v := .slice (some ⟨g1, 0, none⟩) q c1) rfl
  refine Txt.wp_region_text1 (fun w' => w'.cell? ⟨b, 1, none⟩ = some (.slice (some ⟨g1, 0, none⟩) q c1)) [0, 3, 0, 0, 0, 2, 0, 0, 4, 0, 0, 0, 2, 0, 0, 0, 4, 0, 0, 4] (by kernel_rfl) (by kernel_rfl) d0 ?_
  clear d0
  simp only [List.dropLast]
  have HM : Hid _ := HM.out.drew
  (repeat (first | (refine Txt.tl_pure (v := ?_) (by rfl) ?_ ?_; rotate_left; (focus (intro _; go_simp; try with_reducible rfl)); simp only [Act.put, List.setIfInBounds_toArray, List.set_cons_zero, List.set_cons_succ]) | (refine Txt.tl_load (v := ?_) (by rfl) (by rfl) (by rfl) (by kernel_rfl) ?_ ?_; rotate_left; (focus assumption); simp only [Act.put, List.setIfInBounds_toArray, List.set_cons_zero, List.set_cons_succ]) | (refine Txt.tl_loadS (v := ?_) (by rfl) (by rfl) (by rfl) (by kernel_rfl) ?_ ?_; rotate_left; (focus (exact fun _ h => h)); simp only [Act.put, List.setIfInBounds_toArray, List.set_cons_zero, List.set_cons_succ])))
  refine Txt.tl_alloc (by rfl) ?_
  refine St.wp_build0z slI rfl ?_
  have HM : Hid _ := Mem.M.row0 HM.out (T := 28) encI rfl
  refine ⟨⟨Txt.Le.alloc _ _, HM.out.cell 0 rfl 1 rfl⟩, ?_⟩
  simp only [Act.put, List.setIfInBounds_toArray, List.set_cons_zero, List.set_cons_succ]
  (repeat (first | (refine Txt.tl_pure (v := ?_) (by rfl) ?_ ?_; rotate_left; (focus (intro _; go_simp; try with_reducible rfl)); simp only [Act.put, List.setIfInBounds_toArray, List.set_cons_zero, List.set_cons_succ]) | (refine Txt.tl_load (v := ?_) (by rfl) (by rfl) (by rfl) (by kernel_rfl) ?_ ?_; rotate_left; (focus assumption); simp only [Act.put, List.setIfInBounds_toArray, List.set_cons_zero, List.set_cons_succ]) | (refine Txt.tl_loadS (v := ?_) (by rfl) (by rfl) (by rfl) (by kernel_rfl) ?_ ?_; rotate_left; (focus (exact fun _ h => h)); simp only [Act.put, List.setIfInBounds_toArray, List.set_cons_zero, List.set_cons_succ])))
  refine Txt.tl_loadS (v := .slice (some ⟨g1, 0, none⟩) q c1) (ty := 26) (by rfl) (by rfl) (by rfl) (by kernel_rfl) (fun _ h => h) ?_
  simp only [Act.put, List.setIfInBounds_toArray, List.set_cons_zero, List.set_cons_succ]
  (repeat (first | (refine Txt.tl_pure (v := ?_) (by rfl) ?_ ?_; rotate_left; (focus (intro _; go_simp; try with_reducible rfl)); simp only [Act.put, List.setIfInBounds_toArray, List.set_cons_zero, List.set_cons_succ]) | (refine Txt.tl_load (v := ?_) (by rfl) (by rfl) (by rfl) (by kernel_rfl) ?_ ?_; rotate_left; (focus assumption); simp only [Act.put, List.setIfInBounds_toArray, List.set_cons_zero, List.set_cons_succ]) | (refine Txt.tl_loadS (v := ?_) (by rfl) (by rfl) (by rfl) (by kernel_rfl) ?_ ?_; rotate_left; (focus (exact fun _ h => h)); simp only [Act.put, List.setIfInBounds_toArray, List.set_cons_zero, List.set_cons_succ])))
  refine Txt.tl_loud (by rfl) ?_
  refine St.wp_appRz encI slI (by decide) rfl rfl (HM.out.get 5 rfl) rfl (own_cut (HM.out.get 2 rfl) i (by omega)) (by simp; omega) ?_
  intro v6 w6 h6 k6 g6
  have HM : Hid _ := HM.out.appR 5 rfl h6 k6 g6
  clear h6 k6 g6
  refine ⟨HM.out.cell 0 rfl 1 rfl, ?_⟩
  simp only [Act.put, List.setIfInBounds_toArray, List.set_cons_zero, List.set_cons_succ]
  (repeat (first | (refine Txt.tl_pure (v := ?_) (by rfl) ?_ ?_; rotate_left; (focus (intro _; go_simp; try with_reducible rfl)); simp only [Act.put, List.setIfInBounds_toArray, List.set_cons_zero, List.set_cons_succ]) | (refine Txt.tl_load (v := ?_) (by rfl) (by rfl) (by rfl) (by kernel_rfl) ?_ ?_; rotate_left; (focus assumption); simp only [Act.put, List.setIfInBounds_toArray, List.set_cons_zero, List.set_cons_succ]) | (refine Txt.tl_loadS (v := ?_) (by rfl) (by rfl) (by rfl) (by kernel_rfl) ?_ ?_; rotate_left; (focus (exact fun _ h => h)); simp only [Act.put, List.setIfInBounds_toArray, List.set_cons_zero, List.set_cons_succ])))
  refine Txt.tl_loadS (v := .slice (some ⟨g1, 0, none⟩) q c1) (ty := 26) (by rfl) (by rfl) (by rfl) (by kernel_rfl) (fun _ h => h) ?_
  simp only [Act.put, List.setIfInBounds_toArray, List.set_cons_zero, List.set_cons_succ]
  (repeat (first | (refine Txt.tl_pure (v := ?_) (by rfl) ?_ ?_; rotate_left; (focus (intro _; go_simp; try with_reducible rfl)); simp only [Act.put, List.setIfInBounds_toArray, List.set_cons_zero, List.set_cons_succ]) | (refine Txt.tl_load (v := ?_) (by rfl) (by rfl) (by rfl) (by kernel_rfl) ?_ ?_; rotate_left; (focus assumption); simp only [Act.put, List.setIfInBounds_toArray, List.set_cons_zero, List.set_cons_succ]) | (refine Txt.tl_loadS (v := ?_) (by rfl) (by rfl) (by rfl) (by kernel_rfl) ?_ ?_; rotate_left; (focus (exact fun _ h => h)); simp only [Act.put, List.setIfInBounds_toArray, List.set_cons_zero, List.set_cons_succ])))
  refine Txt.tl_loud (by rfl) ?_
  refine St.wp_appRz encI slI (by decide) rfl rfl (HM.out.get 5 rfl) rfl (own_tl (HM.out.get 2 rfl) p (by omega) (by omega)) (by simp; omega) ?_
  intro v7 w7 h7 k7 g7
  obtain ⟨a7, c7, e7, _⟩ := h7.any
  subst e7
  have HM : Hid _ := HM.out.appR 5 rfl h7 k7 g7
  clear h7 k7 g7
  refine ⟨HM.out.cell 0 rfl 1 rfl, ?_⟩
  simp only [Act.put, List.setIfInBounds_toArray, List.set_cons_zero, List.set_cons_succ]
  (repeat (first | (refine Txt.tl_pure (v := ?_) (by rfl) ?_ ?_; rotate_left; (focus (intro _; go_simp; try with_reducible rfl)); simp only [Act.put, List.setIfInBounds_toArray, List.set_cons_zero, List.set_cons_succ]) | (refine Txt.tl_load (v := ?_) (by rfl) (by rfl) (by rfl) (by kernel_rfl) ?_ ?_; rotate_left; (focus assumption); simp only [Act.put, List.setIfInBounds_toArray, List.set_cons_zero, List.set_cons_succ]) | (refine Txt.tl_loadS (v := ?_) (by rfl) (by rfl) (by rfl) (by kernel_rfl) ?_ ?_; rotate_left; (focus (exact fun _ h => h)); simp only [Act.put, List.setIfInBounds_toArray, List.set_cons_zero, List.set_cons_succ])))
  refine Txt.tl_nil ?_
  refine Txt.tl_last (by rfl) (by rfl) ?_
  have f0 := HM.out.free 0 rfl 1
  have d0 := HM.out.cell 0 rfl 1 (v := .slice (some ⟨g1, 0, none⟩) q c1) rfl
  go_simp
  obtain ⟨v1, hv1⟩ : ∃ v, Value.slice a7 (L.take i ++ L.drop p).length c7 = v := ⟨_, rfl⟩
  have hv1' := hv1
  rw [List.length_append, List.length_take, List.length_drop] at hv1'
  have HM := HM.out.setc 0 rfl 1 (.slice a7 (L.take i ++ L.drop p).length c7)
  rw [hv1] at HM
  rw [List.nil_append, hv1] at HM
  rw [hv1']
  have HM : Hid (M (xfoot b (.slice (some ⟨g0, 0, none⟩) q c0) (.slice (some ⟨g1, 0, none⟩) q c1) (.slice (some ⟨g2, 0, none⟩) q c2) L) w (w7.setCell ⟨b, 1, none⟩ v1) [blk b (xc v0 v1 (.slice (some ⟨g2, 0, none⟩) q c2) lost), rH v0 (L.take i ++ L.drop p), rI v1 (L.take i ++ L.drop p), rF (.slice (some ⟨g2, 0, none⟩) q c2) L, pars L]) := HM.sub _ [0, 1, 5, 3, 4] (by decide) rfl
  clear hv1 hv1' f0 d0
  generalize (if c1 = p then (some ⟨g1, 0, none⟩ : Option Addr) else some ⟨g1, p * 32, none⟩) = z1
  go_wp2
  have d0 := HM.out.drew.cell 0 rfl 2 (v := .slice (some ⟨g2, 0, none⟩) q c2) rfl
  refine Txt.wp_region_text1 (fun w' => w'.cell? ⟨b, 2, none⟩ = some (.slice (some ⟨g2, 0, none⟩) q c2)) [0, 3, 0, 0, 0, 2, 0, 0, 4, 0, 0, 0, 2, 0, 0, 0, 4, 0, 0, 4] (by kernel_rfl) (by kernel_rfl) d0 ?_
  clear d0
  simp only [List.dropLast]
  have HM : Hid _ := HM.out.drew
  (repeat (first | (refine Txt.tl_pure (v := ?_) (by rfl) ?_ ?_; rotate_left; (focus (intro _; go_simp; try with_reducible rfl)); simp only [Act.put, List.setIfInBounds_toArray, List.set_cons_zero, List.set_cons_succ]) | (refine Txt.tl_load (v := ?_) (by rfl) (by rfl) (by rfl) (by kernel_rfl) ?_ ?_; rotate_left; (focus assumption); simp only [Act.put, List.setIfInBounds_toArray, List.set_cons_zero, List.set_cons_succ]) | (refine Txt.tl_loadS (v := ?_) (by rfl) (by rfl) (by rfl) (by kernel_rfl) ?_ ?_; rotate_left; (focus (exact fun _ h => h)); simp only [Act.put, List.setIfInBounds_toArray, List.set_cons_zero, List.set_cons_succ])))
  refine Txt.tl_alloc (by rfl) ?_
  refine St.wp_build0z slF rfl ?_
  have HM : Hid _ := Mem.M.row0 HM.out (T := 3) encF rfl
  refine ⟨⟨Txt.Le.alloc _ _, HM.out.cell 0 rfl 2 rfl⟩, ?_⟩
  simp only [Act.put, List.setIfInBounds_toArray, List.set_cons_zero, List.set_cons_succ]
  (repeat (first | (refine Txt.tl_pure (v := ?_) (by rfl) ?_ ?_; rotate_left; (focus (intro _; go_simp; try with_reducible rfl)); simp only [Act.put, List.setIfInBounds_toArray, List.set_cons_zero, List.set_cons_succ]) | (refine Txt.tl_load (v := ?_) (by rfl) (by rfl) (by rfl) (by kernel_rfl) ?_ ?_; rotate_left; (focus assumption); simp only [Act.put, List.setIfInBounds_toArray, List.set_cons_zero, List.set_cons_succ]) | (refine Txt.tl_loadS (v := ?_) (by rfl) (by rfl) (by rfl) (by kernel_rfl) ?_ ?_; rotate_left; (focus (exact fun _ h => h)); simp only [Act.put, List.setIfInBounds_toArray, List.set_cons_zero, List.set_cons_succ])))
  refine Txt.tl_loadS (v := .slice (some ⟨g2, 0, none⟩) q c2) (ty := 44) (by rfl) (by rfl) (by rfl) (by kernel_rfl) (fun _ h => h) ?_
  simp only [Act.put, List.setIfInBounds_toArray, List.set_cons_zero, List.set_cons_succ]
  (repeat (first | (refine Txt.tl_pure (v := ?_) (by rfl) ?_ ?_; rotate_left; (focus (intro _; go_simp; try with_reducible rfl)); simp only [Act.put, List.setIfInBounds_toArray, List.set_cons_zero, List.set_cons_succ]) | (refine Txt.tl_load (v := ?_) (by rfl) (by rfl) (by rfl) (by kernel_rfl) ?_ ?_; rotate_left; (focus assumption); simp only [Act.put, List.setIfInBounds_toArray, List.set_cons_zero, List.set_cons_succ]) | (refine Txt.tl_loadS (v := ?_) (by rfl) (by rfl) (by rfl) (by kernel_rfl) ?_ ?_; rotate_left; (focus (exact fun _ h => h)); simp only [Act.put, List.setIfInBounds_toArray, List.set_cons_zero, List.set_cons_succ])))
  refine Txt.tl_loud (by rfl) ?_
  refine St.wp_appRz encF slF (by decide) rfl rfl (HM.out.get 5 rfl) rfl (own_cut (HM.out.get 3 rfl) i (by omega)) (by simp; omega) ?_
  intro v6 w6 h6 k6 g6
  have HM : Hid _ := HM.out.appR 5 rfl h6 k6 g6
  clear h6 k6 g6
  refine ⟨HM.out.cell 0 rfl 2 rfl, ?_⟩
  simp only [Act.put, List.setIfInBounds_toArray, List.set_cons_zero, List.set_cons_succ]
  (repeat (first | (refine Txt.tl_pure (v := ?_) (by rfl) ?_ ?_; rotate_left; (focus (intro _; go_simp; try with_reducible rfl)); simp only [Act.put, List.setIfInBounds_toArray, List.set_cons_zero, List.set_cons_succ]) | (refine Txt.tl_load (v := ?_) (by rfl) (by rfl) (by rfl) (by kernel_rfl) ?_ ?_; rotate_left; (focus assumption); simp only [Act.put, List.setIfInBounds_toArray, List.set_cons_zero, List.set_cons_succ]) | (refine Txt.tl_loadS (v := ?_) (by rfl) (by rfl) (by rfl) (by kernel_rfl) ?_ ?_; rotate_left; (focus (exact fun _ h => h)); simp only [Act.put, List.setIfInBounds_toArray, List.set_cons_zero, List.set_cons_succ])))
  refine Txt.tl_loadS (v := .slice (some ⟨g2, 0, none⟩) q c2) (ty := 44) (by rfl) (by rfl) (by rfl) (by kernel_rfl) (fun _ h => h) ?_
  simp only [Act.put, List.setIfInBounds_toArray, List.set_cons_zero, List.set_cons_succ]
  (repeat (first | (refine Txt.tl_pure (v := ?_) (by rfl) ?_ ?_; rotate_left; (focus (intro _; go_simp; try with_reducible rfl)); simp only [Act.put, List.setIfInBounds_toArray, List.set_cons_zero, List.set_cons_succ]) | (refine Txt.tl_load (v := ?_) (by rfl) (by rfl) (by rfl) (by kernel_rfl) ?_ ?_; rotate_left; (focus assumption); simp only [Act.put, List.setIfInBounds_toArray, List.set_cons_zero, List.set_cons_succ]) | (refine Txt.tl_loadS (v := ?_) (by rfl) (by rfl) (by rfl) (by kernel_rfl) ?_ ?_; rotate_left; (focus (exact fun _ h => h)); simp only [Act.put, List.setIfInBounds_toArray, List.set_cons_zero, List.set_cons_succ])))
  refine Txt.tl_loud (by rfl) ?_
  refine St.wp_appRz encF slF (by decide) rfl rfl (HM.out.get 5 rfl) rfl (own_tl1 (HM.out.get 3 rfl) p (by omega) (by omega)) (by simp; omega) ?_
  intro v7 w7 h7 k7 g7
  obtain ⟨a7, c7, e7, _⟩ := h7.any
  subst e7
  have HM : Hid _ := HM.out.appR 5 rfl h7 k7 g7
  clear h7 k7 g7
  refine ⟨HM.out.cell 0 rfl 2 rfl, ?_⟩
  simp only [Act.put, List.setIfInBounds_toArray, List.set_cons_zero, List.set_cons_succ]
  (repeat (first | (refine Txt.tl_pure (v := ?_) (by rfl) ?_ ?_; rotate_left; (focus (intro _; go_simp; try with_reducible rfl)); simp only [Act.put, List.setIfInBounds_toArray, List.set_cons_zero, List.set_cons_succ]) | (refine Txt.tl_load (v := ?_) (by rfl) (by rfl) (by rfl) (by kernel_rfl) ?_ ?_; rotate_left; (focus assumption); simp only [Act.put, List.setIfInBounds_toArray, List.set_cons_zero, List.set_cons_succ]) | (refine Txt.tl_loadS (v := ?_) (by rfl) (by rfl) (by rfl) (by kernel_rfl) ?_ ?_; rotate_left; (focus (exact fun _ h => h)); simp only [Act.put, List.setIfInBounds_toArray, List.set_cons_zero, List.set_cons_succ])))
  refine Txt.tl_nil ?_
  refine Txt.tl_last (by rfl) (by rfl) ?_
  have f0 := HM.out.free 0 rfl 2
  have d0 := HM.out.cell 0 rfl 2 (v := .slice (some ⟨g2, 0, none⟩) q c2) rfl
  go_simp
  obtain ⟨v2, hv2⟩ : ∃ v, Value.slice a7 (L.take i ++ L.drop p).length c7 = v := ⟨_, rfl⟩
  have hv2' := hv2
  rw [List.length_append, List.length_take, List.length_drop] at hv2'
  have HM := HM.out.setc 0 rfl 2 (.slice a7 (L.take i ++ L.drop p).length c7)
  rw [hv2] at HM
  rw [List.nil_append, hv2] at HM
  rw [hv2']
  have HM : Hid (M (xfoot b (.slice (some ⟨g0, 0, none⟩) q c0) (.slice (some ⟨g1, 0, none⟩) q c1) (.slice (some ⟨g2, 0, none⟩) q c2) L) w (w7.setCell ⟨b, 2, none⟩ v2) [blk b (xc v0 v1 v2 lost), rH v0 (L.take i ++ L.drop p), rI v1 (L.take i ++ L.drop p), rF v2 (L.take i ++ L.drop p), pars L]) := HM.sub _ [0, 1, 2, 5, 4] (by decide) rfl
  clear hv2 hv2' f0 d0
  generalize (if c2 = p then (some ⟨g2, 0, none⟩ : Option Addr) else some ⟨g2, p, none⟩) = z2
  go_wp2
  have e1 := HQ.out
  subst e1
  have e2 := HP.out
  subst e2
  go_end0
  exact ⟨rfl, _, _, _, HM.out⟩
end Px
end Go.Proofs.YtdpkklinpbmkfaaGreatDoor
