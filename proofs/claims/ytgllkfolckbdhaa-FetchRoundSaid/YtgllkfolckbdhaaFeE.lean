/-
  fetch: Have, Deny, All.
-/
import Derived.Test.YtgllkfolckbdhaaFeD
set_option linter.unusedVariables false
set_option linter.unusedSimpArgs false
namespace Go.Proofs.Ytgllkfolckbdhaa
open Go.RowKit
namespace Fe
open Oct Ids Mp
open Mem (M It blk ids rows)
theorem flat_set {j : Nat} (hj : j < 37) {v : Value} {x x' : Fd} (hv : (fe x).set j v = fe x') : ∀ (L : List Fd) (i : Nat), L[i]? = some x → (L.flatMap fe).set (i * 37 + j) v = (L.set i x').flatMap fe
  | [], i, h => by simp at h
  | y :: L, 0, h => by
    simp only [List.getElem?_cons_zero, Option.some.injEq] at h
    subst h
    rw [List.flatMap_cons, Nat.zero_mul, Nat.zero_add, List.set_append_left _ _ (by rw [fe_len]; exact hj), hv, List.set_cons_zero, List.flatMap_cons]
  | y :: L, i + 1, h => by
    rw [List.flatMap_cons, List.set_append_right _ _ (by rw [fe_len, Nat.succ_mul]; omega), fe_len, show (i + 1) * 37 + j - 37 = i * 37 + j by rw [Nat.succ_mul]; omega, flat_set hj hv L i (by simpa using h), List.set_cons_succ, List.flatMap_cons]
theorem own_setc {w : World} {g q c : Nat} {L : List Fd} (h : OwnF w (.slice (some ⟨g, 0, none⟩) q c) L) {i j : Nat} {x x' : Fd} (hx : L[i]? = some x) (hj : j < 37) {v : Value} (hv : (fe x).set j v = fe x') : OwnF (w.setCell ⟨g, i * 37 + j, none⟩ v) (.slice (some ⟨g, 0, none⟩) q c) (L.set i x') := by
  obtain ⟨hq, cur, hg, hqc, hc, hsz, ht⟩ := h.block
  have hl : (L.set i x').length = q := by rw [List.length_set, hq]
  have := St.Own.of (T := 39) (els := L.set i x') (cap := c) F_enc (block_set hg v (i := i * 37 + j)) (by rw [hl]; exact hqc) hc (by simpa using hsz) (by
    rw [hl, Array.toList_setIfInBounds, List.take_set, ht]
    exact flat_set hj hv L i hx)
  rwa [hl] at this
theorem row_cell {w : World} {g q c : Nat} {L : List Fd} (h : OwnF w (.slice (some ⟨g, 0, none⟩) q c) L) {i j : Nat} {x : Fd} (hx : L[i]? = some x) {v : Value} (hv : (fe x).toArray[j]? = some v) : w.cell? ⟨g, i * 37 + j, none⟩ = some v := own_rng h hx j v (by rwa [List.getElem?_toArray] at hv)
theorem row_free {w : World} {g q c : Nat} {L : List Fd} (h : OwnF w (.slice (some ⟨g, 0, none⟩) q c) L) (a : Nat) : w.frozen? ⟨g, a, none⟩ = false := by
  obtain ⟨_, cur, hg, _⟩ := h.block
  exact free_of hg
theorem fset {F : Nat → Prop} {w0 w : World} {it : List It} (h : M F w0 w it) (k : Nat) {g q c : Nat} {L : List Fd} (hk : it[k]? = some (rF (.slice (some ⟨g, 0, none⟩) q c) L)) {i j : Nat} {x x' : Fd} (hx : L[i]? = some x) (hj : j < 37) {v : Value} (hv : (fe x).toArray.setIfInBounds j v = (fe x').toArray) : M F w0 (w.setCell ⟨g, i * 37 + j, none⟩ v) (it.set k (rF (.slice (some ⟨g, 0, none⟩) q c) (L.set i x'))) :=
  h.upd k hk (S := fun b => b = g) ((Keep.refl _ _).setCell ⟨g, i * 37 + j, none⟩ v (fun _ => rfl)) (fun b e => by subst e; rfl) (y := rF (.slice (some ⟨g, 0, none⟩) q c) (L.set i x')) (own_setc (h.get k hk) hx hj (by
    rw [List.setIfInBounds_toArray] at hv
    exact congrArg Array.toList hv)) (fun k hk => .inl hk)
/-- Only when it is due, and whether it was had, changed. -/
structure Chg (L L' : List Fd) : Prop where
  len : L'.length = L.length
  at_ : ∀ (i : Nat) (x' : Fd), L'[i]? = some x' → ∃ x, L[i]? = some x ∧ x'.u = x.u ∧ x'.p = x.p ∧ x'.t = x.t
theorem Chg.refl (L : List Fd) : Chg L L := ⟨rfl, fun i x h => ⟨x, h, rfl, rfl, rfl⟩⟩
theorem Chg.trans {L L' L'' : List Fd} (h : Chg L L') (k : Chg L' L'') : Chg L L'' := by
  refine ⟨k.len.trans h.len, fun i x hx => ?_⟩
  obtain ⟨y, hy, a1, a2, a3⟩ := k.at_ i x hx
  obtain ⟨z, hz, b1, b2, b3⟩ := h.at_ i y hy
  exact ⟨z, hz, a1.trans b1, a2.trans b2, a3.trans b3⟩
theorem Chg.set {L : List Fd} {i : Nat} {x x' : Fd} (hx : L[i]? = some x) (hu : x'.u = x.u) (hp : x'.p = x.p) (ht : x'.t = x.t) : Chg L (L.set i x') := by
  refine ⟨List.length_set, fun j y hy => ?_⟩
  have hlt := (List.getElem?_eq_some_iff.1 hx).1
  by_cases e : j = i
  · subst e
    rw [List.getElem?_set_self hlt] at hy
    cases hy
    exact ⟨x, hx, hu, hp, ht⟩
  · rw [List.getElem?_set_ne (Ne.symm e)] at hy
    exact ⟨y, hy, rfl, rfl, rfl⟩
structure HPost (w : World) (b b2 : Nat) (lv hv : Value) (L : List Fd) (H : List Wd) (at_ : Int) (S : List Int) (sf : Int) (e : Ending) (w' : World) : Prop where
  ex : ∃ r L', e = .returned (.bool r) ∧ Chg L L' ∧ FTo w w' b b2 lv hv lv hv L' H at_ S sf
theorem fidx_at {L : List Fd} {u : Wd} {i : Nat} (h : fidx L u = some i) : ∃ x, L[i]? = some x := by
  unfold fidx at h
  rw [List.findIdx?_eq_some_iff_getElem] at h
  obtain ⟨hi, _⟩ := h
  exact ⟨_, List.getElem?_eq_getElem hi⟩
set_option maxRecDepth 100000 in
set_option maxHeartbeats 4000000 in
theorem fhave (w : World) (b b2 : Nat) (lv hv : Value) (L : List Fd) (H : List Wd) (at_ : Int) (S : List Int) (sf : Int) (h : FAt w b b2 lv hv L H at_ S sf) (hL : L.length ≤ 100) (u : Wd) (hu : u.length = 32) (fr now : Int) :
    Calls Try.prog 13 #[.pointer (some ⟨b, 0, none⟩), idv u, .int .i64 fr, .int .i64 now] w (HPost w b b2 lv hv L H at_ S sf) := by
  have HM : Hid (M (ffoot b b2 lv hv) w _ (fit b b2 lv hv L H at_ S sf ++ [blk w.heap.size (.cells (u.map bv).toArray 32)])) := h.all.alloc (.cells (u.map bv).toArray 32) rfl
  have HF : Hid (∀ (w' : World) (it : List It), M (ffoot b b2 lv hv) w w' (fit b b2 lv hv L H at_ S sf ++ it) → Calls Try.prog 33 #[.pointer (some ⟨b, 0, none⟩), idv u] w' fun e w'' => e = .returned (fptr lv (fidx L u)) ∧ Keep (fun _ => False) w' w'') := fun w' it m => ffind w' b b2 lv hv L H at_ S sf (mkF (m.take 4)) hL u hu
  have HU : Hid (u.length = 32) := hu
  have hck := clk_in now
  have HCk : Hid (∀ w, Calls Try.prog 26 #[.int .i64 now] w fun e w' => e = .returned (.int .i64 (clk now)) ∧ w' = w) := fun w => clock_any w now
  have hw4 : IntKind.i64.wrap (clk now + 4) = clk now + 4 := IntWalk.i64_in _ (by omega)
  generalize clk now = ck at hck HCk hw4
  cases hi : fidx L u with
  | none =>
    have HP : Hid (fptr lv (fidx L u) = .pointer none) := by show _ = _; rw [hi]; rfl
    clear h hL hu hi hck
    go_enter Try.func13, Try.ntmps13
    go_wp2_with (first | ((with_reducible refine at_load 32 ?_); refine Ids.wl_load rfl rfl rfl HU.out (HM.out.range 4 rfl) ?_; simp only [Act.put, List.setIfInBounds_toArray, List.set_cons_zero, List.set_cons_succ]) | (go_at_call 33; refine (HF.out _ _ HM.out).mono ?_; rintro e w2 ⟨rfl, k2⟩; rw [HP.out]; have HM : Hid _ := HM.out.calm k2; clear k2))
    go_ret
    exact ⟨_, L, rfl, Chg.refl L, FTo.of (HM.out.take 4)⟩
  | some i =>
    obtain ⟨x, hx⟩ := fidx_at hi
    have Hx : Hid (L[i]? = some x) := hx
    rcases own_form h.row with ⟨_, e⟩ | ⟨g, c, e⟩
    · subst e; simp at hx
    · obtain ⟨q, hq⟩ : ∃ q, L.length = q := ⟨_, rfl⟩
      rw [hq] at e
      subst e
      have HP : Hid (fptr (.slice (some ⟨g, 0, none⟩) q c) (fidx L u) = .pointer (some ⟨g, i * 37, none⟩)) := by show _ = _; rw [hi]; show Value.pointer (some ⟨g, 0 + i * 37, none⟩) = _; rw [Nat.zero_add]
      have HC : Hid (∀ (w' : World) (it : List It), M (ffoot b b2 (.slice (some ⟨g, 0, none⟩) q c) hv) w w' (fit b b2 (.slice (some ⟨g, 0, none⟩) q c) hv L H at_ S sf ++ it) → w'.cell? ⟨g, i * 37 + 32, none⟩ = some (.int .i64 x.p) ∧ w'.cell? ⟨g, i * 37 + 35, none⟩ = some (.bool x.g)) := fun w' it m => ⟨row_cell (m.get 1 rfl) hx (fe_p x), row_cell (m.get 1 rfl) hx (fe_g x)⟩
      clear h hL hu hi hx hck hq
      obtain ⟨xp, hxp⟩ : ∃ p, x.p = p := ⟨_, rfl⟩
      obtain ⟨xg, hxg⟩ : ∃ p, x.g = p := ⟨_, rfl⟩
      rw [hxp, hxg] at HC
      clear hxp hxg
      by_cases hpf : xp = fr
      · subst hpf
        cases xg with
        | true =>
          go_enter Try.func13, Try.ntmps13
          go_wp2_with (first | ((with_reducible refine at_load 32 ?_); refine Ids.wl_load rfl rfl rfl HU.out (HM.out.range 4 rfl) ?_; simp only [Act.put, List.setIfInBounds_toArray, List.set_cons_zero, List.set_cons_succ]) | (go_at_call 33; refine (HF.out _ _ HM.out).mono ?_; rintro e w2 ⟨rfl, k2⟩; rw [HP.out]; have HM : Hid _ := HM.out.calm k2; obtain ⟨d32, d35⟩ := HC.out _ _ HM.out; clear k2) | (go_at_call 26; refine (HCk.out _).mono ?_; rintro e w3 ⟨rfl, h3⟩; replace h3 := h3.symm; subst h3))
          go_ret
          exact ⟨_, L, rfl, Chg.refl L, FTo.of (HM.out.take 4)⟩
        | false =>
          go_enter Try.func13, Try.ntmps13
          go_wp2_with (first | ((with_reducible refine at_load 32 ?_); refine Ids.wl_load rfl rfl rfl HU.out (HM.out.range 4 rfl) ?_; simp only [Act.put, List.setIfInBounds_toArray, List.set_cons_zero, List.set_cons_succ]) | (go_at_call 33; refine (HF.out _ _ HM.out).mono ?_; rintro e w2 ⟨rfl, k2⟩; rw [HP.out]; have HM : Hid _ := HM.out.calm k2; obtain ⟨d32, d35⟩ := HC.out _ _ HM.out; clear k2) | (go_at_call 26; refine (HCk.out _).mono ?_; rintro e w3 ⟨rfl, h3⟩; replace h3 := h3.symm; subst h3) | ((with_reducible refine at_store 4 ?_); refine wpList_plain rfl fun K hK => wp_storeB (p := ⟨g, i * 37 + 35, none⟩) rfl rfl rfl rfl (row_cell (HM.out.get 1 rfl) Hx.out (fe_g x)) (row_free (HM.out.get 1 rfl) _) (hK _ _ ?_); have HM : Hid _ := fset HM.out 1 rfl Hx.out (by decide) (fe_sg x true); have HE : Hid ((L.set i { x with g := true })[i]? = some { x with g := true }) := List.getElem?_set_self (List.getElem?_eq_some_iff.1 Hx.out).1) | ((with_reducible refine at_store 3 ?_); refine wpList_plain rfl fun K hK => wp_storeInt (p := ⟨g, i * 37 + 33, none⟩) rfl rfl rfl rfl (row_cell (HM.out.get 1 rfl) HE.out (fe_d _)) (row_free (HM.out.get 1 rfl) _) (hK _ _ ?_); have HM : Hid _ := fset HM.out 1 rfl HE.out (by decide) (fe_sd _ (ck + 4))))
          go_ret
          exact ⟨_, _, rfl, (Chg.set (x' := { x with g := true }) Hx.out rfl rfl rfl).trans (Chg.set (x' := { x with g := true, d := ck + 4 }) HE.out rfl rfl rfl), FTo.of (HM.out.take 4)⟩
      · have hpf2 : (xp != fr) = true := by simpa using hpf
        clear hpf
        go_enter Try.func13, Try.ntmps13
        go_wp2_with (first | ((with_reducible refine at_load 32 ?_); refine Ids.wl_load rfl rfl rfl HU.out (HM.out.range 4 rfl) ?_; simp only [Act.put, List.setIfInBounds_toArray, List.set_cons_zero, List.set_cons_succ]) | (go_at_call 33; refine (HF.out _ _ HM.out).mono ?_; rintro e w2 ⟨rfl, k2⟩; rw [HP.out]; have HM : Hid _ := HM.out.calm k2; obtain ⟨d32, d35⟩ := HC.out _ _ HM.out; clear k2) | (go_at_call 26; refine (HCk.out _).mono ?_; rintro e w3 ⟨rfl, h3⟩; replace h3 := h3.symm; subst h3))
        go_ret
        exact ⟨_, L, rfl, Chg.refl L, FTo.of (HM.out.take 4)⟩
set_option maxRecDepth 100000 in
set_option maxHeartbeats 4000000 in
theorem fdeny (w : World) (b b2 : Nat) (lv hv : Value) (L : List Fd) (H : List Wd) (at_ : Int) (S : List Int) (sf : Int) (h : FAt w b b2 lv hv L H at_ S sf) (hL : L.length ≤ 100) (u : Wd) (hu : u.length = 32) (fr now : Int) :
    Calls Try.prog 14 #[.pointer (some ⟨b, 0, none⟩), idv u, .int .i64 fr, .int .i64 now] w (HPost w b b2 lv hv L H at_ S sf) := by
  have HM : Hid (M (ffoot b b2 lv hv) w _ (fit b b2 lv hv L H at_ S sf ++ [blk w.heap.size (.cells (u.map bv).toArray 32)])) := h.all.alloc (.cells (u.map bv).toArray 32) rfl
  have HF : Hid (∀ (w' : World) (it : List It), M (ffoot b b2 lv hv) w w' (fit b b2 lv hv L H at_ S sf ++ it) → Calls Try.prog 33 #[.pointer (some ⟨b, 0, none⟩), idv u] w' fun e w'' => e = .returned (fptr lv (fidx L u)) ∧ Keep (fun _ => False) w' w'') := fun w' it m => ffind w' b b2 lv hv L H at_ S sf (mkF (m.take 4)) hL u hu
  have HU : Hid (u.length = 32) := hu
  have HCk : Hid (∀ w, Calls Try.prog 26 #[.int .i64 now] w fun e w' => e = .returned (.int .i64 (clk now)) ∧ w' = w) := fun w => clock_any w now
  generalize clk now = ck at HCk
  cases hi : fidx L u with
  | none =>
    have HP : Hid (fptr lv (fidx L u) = .pointer none) := by show _ = _; rw [hi]; rfl
    clear h hL hu hi
    go_enter Try.func14, Try.ntmps14
    go_wp2_with (first | ((with_reducible refine at_load 32 ?_); refine Ids.wl_load rfl rfl rfl HU.out (HM.out.range 4 rfl) ?_; simp only [Act.put, List.setIfInBounds_toArray, List.set_cons_zero, List.set_cons_succ]) | (go_at_call 33; refine (HF.out _ _ HM.out).mono ?_; rintro e w2 ⟨rfl, k2⟩; rw [HP.out]; have HM : Hid _ := HM.out.calm k2; clear k2))
    go_ret
    exact ⟨_, L, rfl, Chg.refl L, FTo.of (HM.out.take 4)⟩
  | some i =>
    obtain ⟨x, hx⟩ := fidx_at hi
    have Hx : Hid (L[i]? = some x) := hx
    rcases own_form h.row with ⟨_, e⟩ | ⟨g, c, e⟩
    · subst e; simp at hx
    · obtain ⟨q, hq⟩ : ∃ q, L.length = q := ⟨_, rfl⟩
      rw [hq] at e
      subst e
      have HP : Hid (fptr (.slice (some ⟨g, 0, none⟩) q c) (fidx L u) = .pointer (some ⟨g, i * 37, none⟩)) := by show _ = _; rw [hi]; show Value.pointer (some ⟨g, 0 + i * 37, none⟩) = _; rw [Nat.zero_add]
      have HC : Hid (∀ (w' : World) (it : List It), M (ffoot b b2 (.slice (some ⟨g, 0, none⟩) q c) hv) w w' (fit b b2 (.slice (some ⟨g, 0, none⟩) q c) hv L H at_ S sf ++ it) → w'.cell? ⟨g, i * 37 + 32, none⟩ = some (.int .i64 x.p) ∧ w'.cell? ⟨g, i * 37 + 35, none⟩ = some (.bool x.g)) := fun w' it m => ⟨row_cell (m.get 1 rfl) hx (fe_p x), row_cell (m.get 1 rfl) hx (fe_g x)⟩
      clear h hL hu hi hx hq
      obtain ⟨xp, hxp⟩ : ∃ p, x.p = p := ⟨_, rfl⟩
      rw [hxp] at HC
      clear hxp
      by_cases hpf : xp = fr
      · subst hpf
        go_enter Try.func14, Try.ntmps14
        go_wp2_with (first | ((with_reducible refine at_load 32 ?_); refine Ids.wl_load rfl rfl rfl HU.out (HM.out.range 4 rfl) ?_; simp only [Act.put, List.setIfInBounds_toArray, List.set_cons_zero, List.set_cons_succ]) | (go_at_call 33; refine (HF.out _ _ HM.out).mono ?_; rintro e w2 ⟨rfl, k2⟩; rw [HP.out]; have HM : Hid _ := HM.out.calm k2; obtain ⟨d32, d35⟩ := HC.out _ _ HM.out; clear k2) | (go_at_call 26; refine (HCk.out _).mono ?_; rintro e w3 ⟨rfl, h3⟩; replace h3 := h3.symm; subst h3) | ((with_reducible refine at_store 3 ?_); refine wpList_plain rfl fun K hK => wp_storeInt (p := ⟨g, i * 37 + 33, none⟩) rfl rfl rfl rfl (row_cell (HM.out.get 1 rfl) Hx.out (fe_d _)) (row_free (HM.out.get 1 rfl) _) (hK _ _ ?_); have HM : Hid _ := fset HM.out 1 rfl Hx.out (by decide) (fe_sd _ ck)))
        go_ret
        exact ⟨_, _, rfl, Chg.set (x' := { x with d := ck }) Hx.out rfl rfl rfl, FTo.of (HM.out.take 4)⟩
      · have hpf2 : (xp != fr) = true := by simpa using hpf
        clear hpf
        go_enter Try.func14, Try.ntmps14
        go_wp2_with (first | ((with_reducible refine at_load 32 ?_); refine Ids.wl_load rfl rfl rfl HU.out (HM.out.range 4 rfl) ?_; simp only [Act.put, List.setIfInBounds_toArray, List.set_cons_zero, List.set_cons_succ]) | (go_at_call 33; refine (HF.out _ _ HM.out).mono ?_; rintro e w2 ⟨rfl, k2⟩; rw [HP.out]; have HM : Hid _ := HM.out.calm k2; obtain ⟨d32, d35⟩ := HC.out _ _ HM.out; clear k2) | (go_at_call 26; refine (HCk.out _).mono ?_; rintro e w3 ⟨rfl, h3⟩; replace h3 := h3.symm; subst h3))
        go_ret
        exact ⟨_, L, rfl, Chg.refl L, FTo.of (HM.out.take 4)⟩
set_option maxRecDepth 100000 in
set_option maxHeartbeats 4000000 in
theorem fall (w : World) (b b2 : Nat) (lv hv : Value) (L : List Fd) (H : List Wd) (at_ : Int) (S : List Int) (sf : Int) (h : FAt w b b2 lv hv L H at_ S sf) (hL : L.length ≤ 100) (hH : H.length ≤ 1000) :
    Calls Try.prog 19 #[.pointer (some ⟨b, 0, none⟩)] w fun e w' => ∃ v, e = .returned v ∧ M (fun _ => False) w w' [rF v (L.map (toldX H))] := by
  obtain ⟨c0, c1, _, _⟩ := h.cells
  have HN : Hid (Calls Try.prog 22 #[.pointer (some ⟨b, 0, none⟩)] w fun e w' => e = .returned (.bool false) ∧ w' = w) := fnone w b b2 c1
  have HTd : Hid (∀ w', Keep (fun _ => False) w w' → ∀ x : Fd, Calls Try.prog 30 #[.pointer (some ⟨b, 0, none⟩), .agg (fe x).toArray] w' fun e w'' => e = .returned (.agg (fe (toldX H x)).toArray) ∧ Keep (fun _ => False) w' w'') := fun w' k x => ftold (h.calm k) hH x
  have HR : Hid (OwnF w lv L) := h.row
  obtain ⟨la, lc, e1, _⟩ := h.row.any
  obtain ⟨n, hn⟩ : ∃ n, L.length = n := ⟨_, rfl⟩
  rw [hn] at e1 hL
  have Hn : Hid (L.length = n) := hn
  subst e1
  have HM : Hid (M (fun _ => False) w w [rF (.slice none 0 0) []]) := (M.start _ w).nilR 39 37 fe
  clear h hn c1
  go_enter Try.func19, Try.ntmps19
  go_wp2_with (first | (go_at_call 22; refine HN.out.mono ?_; rintro e w1 ⟨rfl, h1⟩; replace h1 := h1.symm; subst h1))
  clear c0
  go_loopw [3, 13] (fun s3 s13 wr => ∃ (k : Nat) (v : Value), k ≤ n ∧ s3 = v ∧ s13 = .int .i64 k ∧ M (fun _ => False) w wr [rF v ((L.take k).map (toldX H))]) (fun _ s13 _ => n - (intOf s13).toNat)
  case atStart => exact ⟨0, _, Nat.zero_le _, rfl, by go_num, HM.out⟩
  case round =>
    clear HM
    obtain ⟨k, v, hk, e3, rfl, hM⟩ := hrel
    replace e3 := e3.symm
    subst e3
    have HM : Hid (M (fun _ => False) w wr [rF v ((L.take k).map (toldX H))]) := hM
    clear hM
    by_cases hlt : k < n
    · obtain ⟨x, hx⟩ : ∃ x, L[k]? = some x := ⟨_, List.getElem?_eq_getElem (by rw [Hn.out]; exact hlt)⟩
      obtain ⟨g0, o0, e0, hg0, hr0⟩ := (St.Own.slice HR.out).2.lay.resolve_left (by have := Hn.out; omega)
      subst e0
      have R1 : Hid (wr.rangeAt g0 (o0 + k * 37) (fe x)) := HM.out.keep.range hg0 (fun h => h) (hr0 k x hx)
      have HSt : Hid ((L.take (k + 1)).map (toldX H) = (L.take k).map (toldX H) ++ [toldX H x]) := by show _ = _; rw [List.take_add_one, hx, List.map_append]; rfl
      have HLl : Hid (((L.take k).map (toldX H)).length ≤ 100) := by show _ ≤ _; rw [List.length_map, List.length_take]; omega
      have HTx : Hid (∀ w', Keep (fun _ => False) w w' → Calls Try.prog 30 #[.pointer (some ⟨b, 0, none⟩), .agg (fe x).toArray] w' fun e w'' => e = .returned (.agg (fe (toldX H x)).toArray) ∧ Keep (fun _ => False) w' w'') := fun w' kk => HTd.out w' kk x
      clear hr0 hx hg0
      go_wp2_with (first | ((with_reducible refine at_dst 16 ?_); refine St.wl_load tyF rfl rfl rfl R1.out (fe_len _) ?_; simp only [Act.put, List.setIfInBounds_toArray, List.set_cons_zero, List.set_cons_succ]) | ((with_reducible refine at_alloc 39 ?_); refine St.wl_alloc tyF rfl rfl (by (try simp only [World.size_alloc]); rfl) ?_; simp only [Act.put, List.setIfInBounds_toArray, List.set_cons_zero, List.set_cons_succ]) | ((with_reducible refine at_store 39 ?_); refine St.wl_storeN (W := wr) tyF rfl rfl rfl rfl rfl (by (try simp only [World.size_alloc])) (show _ = Value.agg (fe x).toArray from rfl) (fe_sz x) rfl (F_enc.all x) ?_; have HM : Hid _ := HM.out.alloc (xO x) rfl) | ((with_reducible refine at_dst 19 ?_); refine St.wl_load tyF rfl rfl rfl (HM.out.range 1 rfl) (fe_len _) ?_; simp only [Act.put, List.setIfInBounds_toArray, List.set_cons_zero, List.set_cons_succ]) | (go_at_call 30; refine (HTx.out _ HM.out.keep).mono ?_; rintro e w6 ⟨rfl, k6⟩; have HM : Hid _ := HM.out.calm k6; clear k6) | ((with_reducible refine at_dst 21 ?_); refine St.wl_build slF (by decide) rfl rfl (fe_len (toldX H x)) rfl ?_; have HM : Hid _ := HM.out.alloc (xO (toldX H x)) rfl; simp only [Act.put, List.setIfInBounds_toArray, List.set_cons_zero, List.set_cons_succ]) | ((with_reducible refine at_dst 22 ?_); refine St.wl_app1 slF (by decide) rfl rfl rfl (HM.out.get 0 rfl) rfl (fe_len _) (F_enc.all (toldX H x)) (HM.out.get 2 rfl) (by have := HLl.out; omega) ?_; intro v7 w7 h7 k7 g7; have HM : Hid _ := (HM.out.appR 0 rfl h7 k7 g7).take 1; clear h7 k7 g7; simp only [Act.put, List.setIfInBounds_toArray, List.set_cons_zero, List.set_cons_succ]))
      go_roundw
      case rel => exact ⟨k + 1, _, by omega, rfl, by go_num, by rw [HSt.out]; exact HM.out⟩
      case measure => simp [intOf]; omega
    · obtain rfl : k = n := by omega
      have e : L.take k = L := List.take_of_length_le (by rw [Hn.out]; exact Nat.le_refl _)
      rw [e] at HM
      clear e
      go_wp2
      go_ret
      exact ⟨v, rfl, HM.out⟩
end Fe
end Go.Proofs.Ytgllkfolckbdhaa
