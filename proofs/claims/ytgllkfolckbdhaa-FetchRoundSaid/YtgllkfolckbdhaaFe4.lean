/-
  fetch.Fetch in memory; New, none, Board, clock, find, once.
-/
import Derived.Test.YtgllkfolckbdhaaFe3
import Derived.Test.YtgllkfolckbdhaaSq1
import Derived.Laws.Cover3
import Derived.Carry
set_option linter.unusedVariables false
set_option linter.unusedSimpArgs false
namespace Go.Proofs.Ytgllkfolckbdhaa
open Go.RowKit
namespace Fe
open Oct Ids Mp
open Mem (M It blk ids rows)
open Sq (pack M_drop)
/-- A cell stays. -/
theorem kcell {w w' : World} (k : Keep (fun _ => False) w w') {p : Addr} {v : Value} (h : w.cell? p = some v) : w'.cell? p = some v := by
  rw [← h]
  refine k.cell ?_ (fun h => h)
  unfold World.cell? at h
  cases hb : w.heap[p.block]? with
  | none => rw [hb] at h; cases h
  | some o => exact lt_of_block hb
abbrev okI : List UInt8 → Prop := fun k => k.length = 32
abbrev fc (lv : Value) (b2 : Nat) (hv : Value) (at_ : Int) : Obj := .cells #[lv, .pointer (some ⟨b2, 0, none⟩), hv, .int .i64 at_] 54
abbrev rF (v : Value) (L : List Fd) : It := rows 39 37 fe v L
abbrev fit (b b2 : Nat) (lv hv : Value) (L : List Fd) (H : List Wd) (at_ : Int) (S : List Int) (sf : Int) : List It := [blk b (fc lv b2 hv at_), rF lv L, ids hv H, blk b2 (bc S sf)]
def ffoot (b b2 : Nat) (lv hv : Value) (k : Nat) : Prop := k = b ∨ lv.ownBlock = some k ∨ hv.ownBlock = some k ∨ k = b2
/-- What a Fetch is, as it lies. -/
structure FAt (w : World) (b b2 : Nat) (lv hv : Value) (L : List Fd) (H : List Wd) (at_ : Int) (S : List Int) (sf : Int) : Prop where
  all : M (ffoot b b2 lv hv) w w (fit b b2 lv hv L H at_ S sf)
theorem ffoot_of {b b2 : Nat} {lv hv : Value} {L : List Fd} {H : List Wd} {at_ : Int} {S : List Int} {sf : Int} {i : Nat} {x : It} (hi : (fit b b2 lv hv L H at_ S sf)[i]? = some x) {k : Nat} (hk : x.foot k) : ffoot b b2 lv hv k := by
  match i, hi with
  | 0, hi => cases hi; exact .inl hk
  | 1, hi => cases hi; exact .inr (.inl hk)
  | 2, hi => cases hi; exact .inr (.inr (.inl hk))
  | 3, hi => cases hi; exact .inr (.inr (.inr hk))
theorem ffoot_to {b b2 : Nat} {lv hv : Value} {L : List Fd} {H : List Wd} {at_ : Int} {S : List Int} {sf : Int} {k : Nat} (hk : ffoot b b2 lv hv k) : ∃ (i : Nat) (y : It), (fit b b2 lv hv L H at_ S sf)[i]? = some y ∧ y.foot k := by
  rcases hk with hk | hk | hk | hk
  · exact ⟨0, _, rfl, hk⟩
  · exact ⟨1, _, rfl, hk⟩
  · exact ⟨2, _, rfl, hk⟩
  · exact ⟨3, _, rfl, hk⟩
theorem mkF {F : Nat → Prop} {w0 w : World} {b b2 : Nat} {lv hv : Value} {L : List Fd} {H : List Wd} {at_ : Int} {S : List Int} {sf : Int} (h : M F w0 w (fit b b2 lv hv L H at_ S sf)) : FAt w b b2 lv hv L H at_ S sf :=
  ⟨⟨h.all, h.dis, fun i x hi k hk => ⟨.inr (ffoot_of hi hk), (h.rng i x hi k hk).2⟩, Keep.refl _ _⟩⟩
/-- A Fetch as one thing among others. -/
def ftI (b b2 : Nat) (lv hv : Value) (L : List Fd) (H : List Wd) (at_ : Int) (S : List Int) (sf : Int) : It := ⟨ffoot b b2 lv hv, fun w => FAt w b b2 lv hv L H at_ S sf, fun w w' S' h k n =>
  ⟨⟨fun i x hi => x.stable w w' S' (h.all.all i x hi) k (fun j hj => n j (ffoot_of hi hj)), h.all.dis, fun i x hi j hj => ⟨.inr (ffoot_of hi hj), Nat.lt_of_lt_of_le (h.all.rng i x hi j hj).2 k.size⟩, Keep.refl _ _⟩⟩⟩
section
variable {w w' : World} {b b2 : Nat} {lv hv : Value} {L : List Fd} {H : List Wd} {at_ : Int} {S : List Int} {sf : Int}
theorem FAt.calm (h : FAt w b b2 lv hv L H at_ S sf) (k : Keep (fun _ => False) w w') : FAt w' b b2 lv hv L H at_ S sf := (ftI b b2 lv hv L H at_ S sf).stable w w' _ h k (fun _ _ h => h)
theorem FAt.cells (h : FAt w b b2 lv hv L H at_ S sf) : w.cell? ⟨b, 0, none⟩ = some lv ∧ w.cell? ⟨b, 1, none⟩ = some (.pointer (some ⟨b2, 0, none⟩)) ∧ w.cell? ⟨b, 2, none⟩ = some hv ∧ w.cell? ⟨b, 3, none⟩ = some (.int .i64 at_) :=
  ⟨h.all.cell 0 rfl 0 rfl, h.all.cell 0 rfl 1 rfl, h.all.cell 0 rfl 2 rfl, h.all.cell 0 rfl 3 rfl⟩
theorem FAt.bd (h : FAt w b b2 lv hv L H at_ S sf) : w.heap[b2]? = some (bc S sf) := h.all.get 3 rfl
theorem FAt.row (h : FAt w b b2 lv hv L H at_ S sf) : OwnF w lv L := h.all.get 1 rfl
theorem FAt.held (h : FAt w b b2 lv hv L H at_ S sf) : Ids.Own w hv H := h.all.get 2 rfl
end
/-- What a call makes of it. -/
structure FTo (w w' : World) (b b2 : Nat) (lv hv lv' hv' : Value) (L' : List Fd) (H' : List Wd) (at' : Int) (S' : List Int) (sf : Int) : Prop where
  ft : FAt w' b b2 lv' hv' L' H' at' S' sf
  keep : Keep (ffoot b b2 lv hv) w w'
  foot : ∀ k, ffoot b b2 lv' hv' k → ffoot b b2 lv hv k ∨ (w.heap.size ≤ k ∧ k < w'.heap.size)
theorem M.fto {F : Nat → Prop} {w0 w w' : World} {it : List It} (h : M F w0 w it) (i : Nat) {b b2 : Nat} {lv hv lv' hv' : Value} {L L' : List Fd} {H H' : List Wd} {at_ at' : Int} {S S' : List Int} {sf : Int} (hi : it[i]? = some (ftI b b2 lv hv L H at_ S sf)) (t : FTo w w' b b2 lv hv lv' hv' L' H' at' S' sf) : M F w0 w' (it.set i (ftI b b2 lv' hv' L' H' at' S' sf)) :=
  h.upd i hi t.keep (fun _ h => h) (y := ftI b b2 lv' hv' L' H' at' S' sf) t.ft t.foot
theorem FTo.of {w w' : World} {b b2 : Nat} {lv hv lv' hv' : Value} {L' : List Fd} {H' : List Wd} {at' : Int} {S' : List Int} {sf : Int} (h : M (ffoot b b2 lv hv) w w' (fit b b2 lv' hv' L' H' at' S' sf)) : FTo w w' b b2 lv hv lv' hv' L' H' at' S' sf := by
  refine ⟨mkF h, h.keep, fun k hk => ?_⟩
  obtain ⟨i, y, hi, hy⟩ := ffoot_to (L := L') (H := H') (at_ := at') (S := S') (sf := sf) hk
  have := h.rng i y hi k hy
  rcases this.1 with h1 | h1
  · exact .inr ⟨h1, this.2⟩
  · exact .inl h1
theorem FTo.calm {w w' : World} {b b2 : Nat} {lv hv : Value} {L : List Fd} {H : List Wd} {at_ : Int} {S : List Int} {sf : Int} (h : FAt w b b2 lv hv L H at_ S sf) (k : Keep (fun _ => False) w w') : FTo w w' b b2 lv hv lv hv L H at_ S sf :=
  ⟨h.calm k, k.mono (fun _ _ h => h.elim), fun _ hk => .inl hk⟩
theorem packF {F : Nat → Prop} {w0 w : World} {l : List It} {b b2 : Nat} {lv hv : Value} {L : List Fd} {H : List Wd} {at_ : Int} {S : List Int} {sf : Int} (h : M F w0 w (l ++ fit b b2 lv hv L H at_ S sf)) : M F w0 w (l ++ [ftI b b2 lv hv L H at_ S sf]) := by
  have h3 := M_drop h l.length
  rw [List.drop_left] at h3
  exact pack h _ (mkF h3) (fun k hk => ffoot_to hk)
set_option maxRecDepth 100000 in
theorem fnone (w : World) (b b2 : Nat) (c1 : w.cell? ⟨b, 1, none⟩ = some (.pointer (some ⟨b2, 0, none⟩))) : Calls Try.prog 22 #[.pointer (some ⟨b, 0, none⟩)] w fun e w' => e = .returned (.bool false) ∧ w' = w := by
  go_enter Try.func22, Try.ntmps22
  go_wp2
  go_ret
  exact ⟨rfl, rfl⟩
/-- One that nobody made. -/
def Zf (w : World) (p : Value) : Prop := p = .pointer none ∨ ∃ b, p = .pointer (some ⟨b, 0, none⟩) ∧ w.cell? ⟨b, 1, none⟩ = some (.pointer none)
theorem Zf.calm {w w' : World} {p : Value} (h : Zf w p) (k : Keep (fun _ => False) w w') : Zf w' p := by
  rcases h with h | ⟨b, h, c⟩
  · exact .inl h
  · exact .inr ⟨b, h, kcell k c⟩
set_option maxRecDepth 100000 in
theorem zfnone (w : World) (p : Value) (h : Zf w p) : Calls Try.prog 22 #[p] w fun e w' => e = .returned (.bool true) ∧ w' = w := by
  rcases h with rfl | ⟨b, rfl, c0⟩
  · go_enter Try.func22, Try.ntmps22
    go_wp2
    go_ret
    exact ⟨rfl, rfl⟩
  · go_enter Try.func22, Try.ntmps22
    go_wp2
    go_ret
    exact ⟨rfl, rfl⟩
def clk (now : Int) : Int := max 0 (min now 1073741824)
theorem clk_in (now : Int) : 0 ≤ clk now ∧ clk now ≤ 1073741824 := by unfold clk; omega
set_option maxRecDepth 100000 in
theorem clock_any (w : World) (now : Int) : Calls Try.prog 26 #[.int .i64 now] w fun e w' => e = .returned (.int .i64 (clk now)) ∧ w' = w := by
  rcases (show now < 0 ∨ now = 0 ∨ (0 < now ∧ now < 1073741824) ∨ now = 1073741824 ∨ 1073741824 < now by omega) with h | rfl | ⟨h, h2⟩ | rfl | h
  all_goals
    go_enter Try.func26, Try.ntmps26
    go_wp2
    go_ret
    refine ⟨congrArg (fun z => Ending.returned (Value.int .i64 z)) ?_, rfl⟩
    unfold clk
    omega
def zeros6 : List Int := [0, 0, 0, 0, 0, 0]
theorem zeros_ok {sf : Int} (h : 0 ≤ sf ∧ sf < 6) : SOk zeros6 sf := ⟨rfl, fun n hn => by unfold zeros6 at hn; simp at hn; omega, h⟩
set_option maxRecDepth 100000 in
theorem bnew (w : World) (sf : Int) (h : 0 ≤ sf ∧ sf < 6) : Calls Try.prog 21 #[.int .i64 sf] w fun e w' => e = .returned (.tuple #[.pointer (some ⟨w.heap.size, 0, none⟩), .int .i64 0]) ∧ w' = w.alloc (bc zeros6 sf) := by
  obtain ⟨h1, h2⟩ := h
  have h3 : ¬ sf < 0 := by omega
  have h4 : ¬ 6 ≤ sf := by omega
  go_enter Try.func21, Try.ntmps21
  go_wp2_with (first | (refine wl_buildL rfl rfl [(1, .int .i64 sf), (2, .bool true)] rfl (cs := (bcl zeros6 sf).toArray) (by kernel_rfl) ?_; simp only [Act.put, List.setIfInBounds_toArray, List.set_cons_zero, List.set_cons_succ]))
  go_ret2
  exact ⟨rfl, rfl⟩
set_option maxRecDepth 100000 in
theorem fnew (w : World) (sf : Int) (h : 0 ≤ sf ∧ sf < 6) : Calls Try.prog 6 #[.int .i64 sf] w fun e w' => ∃ b b2, e = .returned (.tuple #[.pointer (some ⟨b, 0, none⟩), .int .i64 0]) ∧ M (fun _ => False) w w' [ftI b b2 (.slice none 0 0) (.slice none 0 0) [] [] 0 zeros6 sf] := by
  have HN : Hid (Calls Try.prog 21 #[.int .i64 sf] w fun e w' => e = .returned (.tuple #[.pointer (some ⟨w.heap.size, 0, none⟩), .int .i64 0]) ∧ w' = w.alloc (bc zeros6 sf)) := bnew w sf h
  have HM : Hid (M (fun _ => False) w _ [blk w.heap.size (bc zeros6 sf)]) := (M.start _ w).alloc (bc zeros6 sf) rfl
  clear h
  go_enter Try.func6, Try.ntmps6
  go_wp2_with (first | (go_at_call 21; refine HN.out.mono ?_; rintro e w1 ⟨rfl, rfl⟩) | (refine wl_buildL rfl rfl [(1, .pointer (some ⟨w.heap.size, 0, none⟩))] rfl (cs := #[.slice none 0 0, .pointer (some ⟨w.heap.size, 0, none⟩), .slice none 0 0, .int .i64 0]) (by kernel_rfl) ?_; simp only [Act.put, List.setIfInBounds_toArray, List.set_cons_zero, List.set_cons_succ]))
  go_ret2
  have HM := ((HM.out.alloc (fc (.slice none 0 0) w.heap.size (.slice none 0 0) 0) (b := w.heap.size + 1) (by simp only [World.size_alloc])).nilR 39 37 fe).nilI
  have HM := HM.sub (fit (w.heap.size + 1) w.heap.size (.slice none 0 0) (.slice none 0 0) [] [] 0 zeros6 sf) [1, 2, 3, 0] (by decide) rfl
  exact ⟨_, _, rfl, packF (l := []) HM⟩
set_option maxRecDepth 100000 in
theorem fboard (w : World) (b b2 : Nat) (c1 : w.cell? ⟨b, 1, none⟩ = some (.pointer (some ⟨b2, 0, none⟩))) : Calls Try.prog 7 #[.pointer (some ⟨b, 0, none⟩)] w fun e w' => e = .returned (.pointer (some ⟨b2, 0, none⟩)) ∧ w' = w := by
  have HN : Hid (Calls Try.prog 22 #[.pointer (some ⟨b, 0, none⟩)] w fun e w' => e = .returned (.bool false) ∧ w' = w) := fnone w b b2 c1
  go_enter Try.func7, Try.ntmps7
  go_wp2_with (first | (go_at_call 22; refine HN.out.mono ?_; rintro e w1 ⟨rfl, rfl⟩))
  go_ret
  exact ⟨rfl, rfl⟩
theorem fe_rng {w : World} {b o : Nat} {x : Fd} (h : w.rangeAt b o (fe x)) : w.rangeAt b o (x.u.map bv) := fun j v hj => h j v (by
  unfold fe
  rw [List.getElem?_append_left (List.getElem?_eq_some_iff.1 hj).1]
  exact hj)
/-- The place of an id; nobody: the length. -/
def fidx (L : List Fd) (u : Wd) : Option Nat := L.findIdx? fun x => x.u == u
/-- A fetching's address. -/
def fptr (lv : Value) : Option Nat → Value
  | none => .pointer none
  | some i => match lv with | .slice (some ⟨g, o, _⟩) _ _ => .pointer (some ⟨g, o + i * 37, none⟩) | _ => .pointer none
theorem fidx_some {L : List Fd} {u : Wd} {k : Nat} {x : Fd} (hx : L[k]? = some x) (hu : x.u = u) (hb : ∀ (j : Nat) (y : Fd), j < k → L[j]? = some y → (y.u == u) = false) : fidx L u = some k := by
  have hk := (List.getElem?_eq_some_iff.1 hx).1
  unfold fidx
  rw [List.findIdx?_eq_some_iff_getElem]
  refine ⟨hk, ?_, fun j hj => ?_⟩
  · rw [(List.getElem?_eq_some_iff.1 hx).2, hu]; simp
  · have := hb j _ hj (List.getElem?_eq_getElem (by omega))
    rw [this]; decide
theorem fidx_none {L : List Fd} {u : Wd} (hb : ∀ (j : Nat) (y : Fd), j < L.length → L[j]? = some y → (y.u == u) = false) : fidx L u = none := by
  unfold fidx
  rw [List.findIdx?_eq_none_iff]
  intro x hx
  obtain ⟨i, hi, rfl⟩ := List.getElem_of_mem hx
  exact hb i _ hi (List.getElem?_eq_getElem hi)
set_option maxRecDepth 100000 in
set_option maxHeartbeats 1000000 in
theorem ffind (w : World) (b b2 : Nat) (lv hv : Value) (L : List Fd) (H : List Wd) (at_ : Int) (S : List Int) (sf : Int) (h : FAt w b b2 lv hv L H at_ S sf) (hL : L.length ≤ 100) (u : Wd) (hu : u.length = 32) :
    Calls Try.prog 33 #[.pointer (some ⟨b, 0, none⟩), idv u] w fun e w' => e = .returned (fptr lv (fidx L u)) ∧ Keep (fun _ => False) w w' := by
  obtain ⟨c0, c1, _, _⟩ := h.cells
  have HN : Hid (∀ w', Keep (fun _ => False) w w' → Calls Try.prog 22 #[.pointer (some ⟨b, 0, none⟩)] w' fun e w'' => e = .returned (.bool false) ∧ w'' = w') := fun w' k => fnone w' b b2 (kcell k c1)
  have HR : Hid (OwnF w lv L) := h.row
  have C0 : Hid (w.cell? ⟨b, 0, none⟩ = some lv) := c0
  have HM : Hid (M (fun _ => False) w _ [blk w.heap.size (.cells (u.map bv).toArray 32)]) := (M.start _ w).alloc (.cells (u.map bv).toArray 32) rfl
  have HU : Hid (u.length = 32) := hu
  obtain ⟨la, lc, e1, _⟩ := h.row.any
  obtain ⟨n, hn⟩ : ∃ n, L.length = n := ⟨_, rfl⟩
  rw [hn] at e1 hL
  have Hn : Hid (L.length = n) := hn
  subst e1
  clear h hu hn c1
  have c0' := kcell HM.out.keep C0.out
  clear c0
  go_enter Try.func33, Try.ntmps33
  go_wp2_with (first | (go_at_call 22; refine (HN.out _ HM.out.keep).mono ?_; rintro e w1 ⟨rfl, h1⟩; replace h1 := h1.symm; subst h1))
  clear c0'
  go_loopw [13] (fun s13 wr => ∃ (k : Nat), k ≤ n ∧ s13 = .int .i64 k ∧ M (fun _ => False) w wr [blk w.heap.size (.cells (u.map bv).toArray 32)] ∧ ∀ (j : Nat) (y : Fd), j < k → L[j]? = some y → (y.u == u) = false) (fun s13 _ => n - (intOf s13).toNat)
  case atStart => exact ⟨0, Nat.zero_le _, by go_num, HM.out, fun j y hj => absurd hj (Nat.not_lt_zero _)⟩
  case round =>
    clear HM
    obtain ⟨k, hk, rfl, hM, hno⟩ := hrel
    have HM : Hid (M (fun _ => False) w wr [blk w.heap.size (.cells (u.map bv).toArray 32)]) := hM
    have HNo : Hid (∀ (j : Nat) (y : Fd), j < k → L[j]? = some y → (y.u == u) = false) := hno
    clear hM hno
    by_cases hlt : k < n
    · obtain ⟨x, hx⟩ : ∃ x, L[k]? = some x := ⟨_, List.getElem?_eq_getElem (by rw [Hn.out]; exact hlt)⟩
      obtain ⟨g0, o0, e0, hg0, hr0⟩ := (St.Own.slice HR.out).2.lay.resolve_left (by have := Hn.out; omega)
      subst e0
      have HRx : Hid (wr.drew.rangeAt g0 (o0 + k * 37) (fe x)) := HM.out.drew.keep.range hg0 (fun h => h) (hr0 k x hx)
      have HRu : Hid (wr.drew.rangeAt g0 (o0 + k * 37) (x.u.map bv)) := fe_rng HRx.out
      have HXu : Hid (x.u.length = 32) := x.hu
      have Hx : Hid (L[k]? = some x) := hx
      have hC : wr.cell? ⟨b, 0, none⟩ = some (.slice (some ⟨g0, o0, none⟩) n lc) := kcell HM.out.keep C0.out
      have hC' : wr.drew.cell? ⟨b, 0, none⟩ = some (.slice (some ⟨g0, o0, none⟩) n lc) := hC
      obtain ⟨r, hr⟩ : ∃ r, (x.u == u) = r := ⟨_, rfl⟩
      have Hr : Hid ((x.u == u) = r) := hr
      have hcmp : ∀ w, Sem.run Try.prog (binOp .eql 32 (idv x.u) (idv u)) w = .ok (.bool r) w := fun w => by rw [← hr]; exact eql_id w x.u u x.hu HU.out
      clear hr0 hx hr hg0
      cases r with
      | true =>
        go_wp2
        refine Txt.wp_region_text (fun _ => True) [0, 0, 0, 1, 0, 0, 0, 1, 1, 0] (by kernel_rfl) (by kernel_rfl) trivial ?_
        (repeat (first | (refine Txt.tl_pure (v := ?_) (by rfl) ?_ ?_; rotate_left; (focus (intro _; go_simp; try with_reducible rfl)); simp only [Act.put, List.setIfInBounds_toArray, List.set_cons_zero, List.set_cons_succ]) | (refine Txt.tl_load (v := ?_) (by rfl) (by rfl) (by rfl) (by kernel_rfl) ?_ ?_; rotate_left; (focus assumption); simp only [Act.put, List.setIfInBounds_toArray, List.set_cons_zero, List.set_cons_succ]) | (refine Txt.tl_rowN (n := 32) (ty := 32) (by rfl) (by rfl) (by rfl) HRu.out (by kernel_rfl) (by rw [List.length_map]; exact HXu.out) ?_; simp only [Act.put, List.setIfInBounds_toArray, List.set_cons_zero, List.set_cons_succ]) | (refine Txt.tl_rowN (n := 32) (ty := 32) (by rfl) (by rfl) (by rfl) (HM.out.drew.range 0 rfl) (by kernel_rfl) (by rw [List.length_map]; exact HU.out) ?_; simp only [Act.put, List.setIfInBounds_toArray, List.set_cons_zero, List.set_cons_succ])))
        refine Txt.tl_nil ?_
        go_wp2
        go_ret
        rw [fidx_some Hx.out (by have := Hr.out; simpa using this) HNo.out]
        exact ⟨rfl, HM.out.keep.drew⟩
      | false =>
        go_wp2
        refine Txt.wp_region_text (fun _ => True) [0, 0, 0, 1, 0, 0, 0, 1, 1, 0] (by kernel_rfl) (by kernel_rfl) trivial ?_
        (repeat (first | (refine Txt.tl_pure (v := ?_) (by rfl) ?_ ?_; rotate_left; (focus (intro _; go_simp; try with_reducible rfl)); simp only [Act.put, List.setIfInBounds_toArray, List.set_cons_zero, List.set_cons_succ]) | (refine Txt.tl_load (v := ?_) (by rfl) (by rfl) (by rfl) (by kernel_rfl) ?_ ?_; rotate_left; (focus assumption); simp only [Act.put, List.setIfInBounds_toArray, List.set_cons_zero, List.set_cons_succ]) | (refine Txt.tl_rowN (n := 32) (ty := 32) (by rfl) (by rfl) (by rfl) HRu.out (by kernel_rfl) (by rw [List.length_map]; exact HXu.out) ?_; simp only [Act.put, List.setIfInBounds_toArray, List.set_cons_zero, List.set_cons_succ]) | (refine Txt.tl_rowN (n := 32) (ty := 32) (by rfl) (by rfl) (by rfl) (HM.out.drew.range 0 rfl) (by kernel_rfl) (by rw [List.length_map]; exact HU.out) ?_; simp only [Act.put, List.setIfInBounds_toArray, List.set_cons_zero, List.set_cons_succ])))
        refine Txt.tl_nil ?_
        go_wp2
        go_roundw
        case rel =>
          refine ⟨k + 1, by omega, by go_num, HM.out.drew, fun j y hj hy => ?_⟩
          rcases Nat.lt_or_ge j k with h | h
          · exact HNo.out j y h hy
          · obtain rfl : j = k := by omega
            rw [Hx.out] at hy
            cases hy
            exact Hr.out
        case measure => simp [intOf]; omega
    · obtain rfl : k = n := by omega
      go_wp2
      go_ret
      rw [fidx_none (fun j y hj => HNo.out j y (by rw [← Hn.out]; exact hj))]
      exact ⟨rfl, HM.out.keep⟩
set_option maxRecDepth 100000 in
theorem zffind (w : World) (p : Value) (h : Zf w p) (u : Wd) : Calls Try.prog 33 #[p, idv u] w fun e w' => e = .returned (.pointer none) ∧ Keep (fun _ => False) w w' := by
  have HN : Hid (∀ w', Keep (fun _ => False) w w' → Calls Try.prog 22 #[p] w' fun e w'' => e = .returned (.bool true) ∧ w'' = w') := fun w' k => zfnone w' p (h.calm k)
  have K1 : Hid (Keep (fun _ => False) w (w.alloc (.cells (u.map bv).toArray 32))) := (Keep.refl _ _).alloc _
  clear h
  go_enter Try.func33, Try.ntmps33
  go_wp2_with (first | (go_at_call 22; refine (HN.out _ K1.out).mono ?_; rintro e w1 ⟨rfl, h1⟩; replace h1 := h1.symm; subst h1))
  go_ret
  exact ⟨rfl, K1.out⟩
end Fe
end Go.Proofs.Ytgllkfolckbdhaa
