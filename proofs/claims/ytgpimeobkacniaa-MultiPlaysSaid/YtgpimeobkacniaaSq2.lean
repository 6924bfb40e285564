/-
  seq: check, Delete.
-/
import Derived.Test.YtgpimeobkacniaaSq1
import Derived.Test.YtgpimeobkacniaaMpT
import Derived.Test.YtgpimeobkacniaaGOp
set_option linter.unusedVariables false
set_option linter.unusedSimpArgs false
namespace Go.Proofs.Ytgpimeobkacniaa
open Go.RowKit
namespace Sq
open Oct Ids Mp
open Mem (M It blk ids rows)
theorem at_load {P : Program} {ops : Array Oper} {Q : Exit → Act → World → Prop} {d : Option Tmp} {ty : TypeId} {p : String} {x : Operand} {af} {g} {rest : List Oper} {a : Act} {w : World} (T : TypeId) (h : wpList P ops Q ({ dst := d, op := .load T x, type := ty, pos := p, after := af, guard := g } :: rest) a w) : wpList P ops Q ({ dst := d, op := .load T x, type := ty, pos := p, after := af, guard := g } :: rest) a w := h
theorem at_alloc {P : Program} {ops : Array Oper} {Q : Exit → Act → World → Prop} {d : Option Tmp} {ty : TypeId} {p : String} {af} {g} {rest : List Oper} {a : Act} {w : World} (T : TypeId) (h : wpList P ops Q ({ dst := d, op := .alloc T, type := ty, pos := p, after := af, guard := g } :: rest) a w) : wpList P ops Q ({ dst := d, op := .alloc T, type := ty, pos := p, after := af, guard := g } :: rest) a w := h
theorem at_store {P : Program} {ops : Array Oper} {Q : Exit → Act → World → Prop} {d : Option Tmp} {ty : TypeId} {p : String} {x y : Operand} {af} {g} {rest : List Oper} {a : Act} {w : World} (T : TypeId) (h : wpList P ops Q ({ dst := d, op := .store T x y, type := ty, pos := p, after := af, guard := g } :: rest) a w) : wpList P ops Q ({ dst := d, op := .store T x y, type := ty, pos := p, after := af, guard := g } :: rest) a w := h
abbrev Zi : List UInt8 := List.replicate 32 0
/-- May a node be? -/
def chk (u : List UInt8) (x : Nd) : Int := if 16 < x.v.size then 3 else if x.h < 1 ∨ 1073741824 < x.h ∨ u = Zi then 5 else 0
theorem ne_val (x : Nd) : (ne x).toArray[33]? = some (.string x.v) := by
  unfold ne
  rw [List.getElem?_toArray, List.getElem?_cons_succ, List.getElem?_append_right (by rw [List.length_map, x.hr]; decide), List.length_map, x.hr]
  rfl
theorem ne_ref (x : Nd) : (ne x).drop 1 = x.r.map bv ++ [.string x.v] := rfl
set_option maxRecDepth 100000 in
set_option maxHeartbeats 2000000 in
theorem check_any (w : World) (u : List UInt8) (hu : u.length = 32) (x : Nd) (hv : x.v.size ≤ maxLen) :
    Calls Try.prog 86 #[idv u, .agg (ne x).toArray] w fun e w' => e = .returned (.int .i64 (chk u x)) ∧ Keep (fun _ => False) w w' := by
  have HM : Hid (M (fun _ => False) w _ [blk w.heap.size (.cells (u.map bv).toArray 35), blk (w.heap.size + 1) (.cells (ne x).toArray 124)]) := ((M.start _ w).alloc (.cells (u.map bv).toArray 35) rfl).alloc (.cells (ne x).toArray 124) (by simp)
  have d0 := HM.out.cell 1 rfl 0 (v := .int .i64 x.h) rfl
  have d33 := HM.out.cell 1 rfl 33 (ne_val x)
  have Hu : Hid (u.length = 32) := hu
  obtain ⟨t, ht⟩ : ∃ t, chk u x = t := ⟨_, rfl⟩
  have HT : Hid (chk u x = t) := ht
  rw [ht]
  unfold chk at ht
  obtain ⟨p, hp⟩ : ∃ p, (u == Zi) = p := ⟨_, rfl⟩
  have hcmp : ∀ w, Sem.run Try.prog (binOp .eql 35 (idv u) (.agg z32)) w = .ok (.bool p) w := fun w => by
    have := eql_id w u Zi hu rfl
    rw [hp] at this
    exact this
  have hp2 : p = true ↔ u = Zi := by rw [← hp]; simp
  have HP : Hid (p = true ↔ u = Zi) := hp2
  clear hp hp2
  unfold maxLen at hv
  generalize (ne x).toArray = X at HM d0 d33 ⊢
  obtain ⟨xh, xr, hr, xv⟩ := x
  simp only at ht d0 d33 hv
  have HTT : Hid _ := ht
  clear ht hu HT
  go_enter Try.func86, Try.ntmps86
  by_cases h1 : 16 < xv.size
  · have HE := HTT.out
    rw [if_pos h1] at HE
    subst HE
    clear HTT hcmp
    go_wp2
    go_ret
    exact ⟨rfl, HM.out.keep⟩
  · have HE := HTT.out
    rw [if_neg h1] at HE
    have HTT : Hid _ := HE
    clear HE
    by_cases h2 : xh < 1
    · have HE := HTT.out
      rw [if_pos (.inl h2)] at HE
      subst HE
      clear HTT hcmp
      go_wp2
      go_ret
      exact ⟨rfl, HM.out.keep⟩
    · by_cases h3 : 1073741824 < xh
      · have HE := HTT.out
        rw [if_pos (.inr (.inl h3))] at HE
        subst HE
        clear HTT hcmp
        go_wp2
        go_ret
        exact ⟨rfl, HM.out.keep⟩
      · cases p with
        | true =>
          have HE := HTT.out
          rw [if_pos (.inr (.inr (HP.out.1 rfl)))] at HE
          subst HE
          clear HTT
          go_wp2_with (first | ((with_reducible refine at_load 35 ?_); refine Ids.wl_load rfl rfl rfl Hu.out (HM.out.range 0 rfl) ?_; simp only [Act.put, List.setIfInBounds_toArray, List.set_cons_zero, List.set_cons_succ]) | (refine St.wl_buildV (T := 35) (parts := #[]) rfl rfl (cs := z32) (by kernel_rfl) ?_; simp only [Act.put, List.setIfInBounds_toArray, List.set_cons_zero, List.set_cons_succ]))
          go_ret
          exact ⟨rfl, HM.out.keep⟩
        | false =>
          have HE := HTT.out
          rw [if_neg (fun h => by
            rcases h with h | h | h
            · omega
            · omega
            · have := HP.out.2 h; cases this)] at HE
          subst HE
          clear HTT
          go_wp2_with (first | ((with_reducible refine at_load 35 ?_); refine Ids.wl_load rfl rfl rfl Hu.out (HM.out.range 0 rfl) ?_; simp only [Act.put, List.setIfInBounds_toArray, List.set_cons_zero, List.set_cons_succ]) | (refine St.wl_buildV (T := 35) (parts := #[]) rfl rfl (cs := z32) (by kernel_rfl) ?_; simp only [Act.put, List.setIfInBounds_toArray, List.set_cons_zero, List.set_cons_succ]))
          go_ret
          exact ⟨rfl, HM.out.keep⟩
/-- What is gone, and one more. -/
def addG (G : List (List UInt8)) (u : List UInt8) : List (List UInt8) := if u ∈ G then G else G ++ [u]
theorem fnd_dG (u : List UInt8) : ∀ (G : List (List UInt8)) (j : Nat), (u ∈ G → ∃ i, fnd u (dG G) j = some (i, .bool true)) ∧ (u ∉ G → fnd u (dG G) j = none)
  | [], j => ⟨fun h => (by cases h), fun _ => rfl⟩
  | g :: G, j => by
    obtain ⟨h1, h2⟩ := fnd_dG u G (j + 1)
    unfold dG at h1 h2 ⊢
    rw [List.map_cons, fnd]
    by_cases e : u = g
    · rw [if_pos e]
      exact ⟨fun _ => ⟨j, rfl⟩, fun h => absurd (by rw [e]; exact List.mem_cons_self) h⟩
    · rw [if_neg e]
      refine ⟨fun h => h1 (by rcases List.mem_cons.1 h with h | h; exact absurd h e; exact h), fun h => h2 fun h' => h (List.mem_cons_of_mem _ h')⟩
theorem put_dG (G : List (List UInt8)) (u : List UInt8) : put (dG G) u (.bool true) = dG (addG G u) := by
  obtain ⟨h1, h2⟩ := fnd_dG u G 0
  unfold put addG
  by_cases h : u ∈ G
  · obtain ⟨i, hi⟩ := h1 h
    rw [if_pos h]
    simp only [hi]
    obtain ⟨_, h3⟩ := fnd_some hi
    rw [Nat.sub_zero] at h3
    have := (List.getElem?_eq_some_iff.1 h3)
    obtain ⟨hlt, he⟩ := this
    rw [← he, List.set_getElem_self]
  · rw [if_neg h]
    simp only [h2 h]
    unfold dG
    rw [List.map_append]
    rfl
set_option maxRecDepth 100000 in
set_option maxHeartbeats 2000000 in
theorem sdelete (w : World) (b bn bb bg : Nat) (N : Nds) (B : Bhs) (G : List (List UInt8)) (h : SqAt w b bn bb bg N B G) (u : List UInt8) (hu : u.length = 32) :
    Calls Try.prog 49 #[.pointer (some ⟨b, 0, none⟩), idv u] w fun e w' => e = .returned (.int .i64 0) ∧ STo w w' b bn bb bg B N B (addG G u) := by
  have HM : Hid _ := h.all.alloc (.cells (u.map bv).toArray 35) rfl
  have HU : Hid (u.length = 32) := hu
  clear h hu
  go_enter Try.func49, Try.ntmps49
  go_wp2_with (first | (go_at_call 52; refine (snone _ b bn bb bg N B G (mkS (HM.out.take 5))).mono ?_; rintro e w1 ⟨rfl, rfl⟩))
  have HM : Hid _ := HM.out.drew
  have c2 := HM.out.cell 0 rfl 2 (v := .map (some bg)) rfl
  refine Txt.wp_region_text (fun _ => True) [0, 0, 0, 1, 1, 4] (by kernel_rfl) (by kernel_rfl) trivial ?_
  (repeat (first | (refine Txt.tl_pure (v := ?_) (by rfl) ?_ ?_; rotate_left; (focus (intro _; go_simp; try with_reducible rfl)); simp only [Act.put, List.setIfInBounds_toArray, List.set_cons_zero, List.set_cons_succ]) | (refine Txt.tl_load (v := ?_) (by rfl) (by rfl) (by rfl) (by kernel_rfl) ?_ ?_; rotate_left; (focus assumption); simp only [Act.put, List.setIfInBounds_toArray, List.set_cons_zero, List.set_cons_succ]) | (refine Txt.tl_rowN (n := 32) (ty := 35) (by rfl) (by rfl) (by rfl) (HM.out.range 5 rfl) (by kernel_rfl) (by rw [List.length_map]; exact HU.out) ?_; simp only [Act.put, List.setIfInBounds_toArray, List.set_cons_zero, List.set_cons_succ]) | (refine Txt.tl_skip (by rfl) trivial ?_; simp only [Act.put, List.setIfInBounds_toArray, List.set_cons_zero, List.set_cons_succ])))
  refine Txt.tl_loud (by rfl) ?_
  refine Mp.wp_put idKey Try.underlying73 rfl rfl (HM.out.get 3 rfl) HU.out rfl (v := .bool true) rfl ?_
  rw [put_dG]
  intro w5 h5 k5
  have HM : Hid _ := M.setMap HM.out 3 rfl h5 k5
  refine ⟨trivial, ?_⟩
  simp only [Act.put, List.setIfInBounds_toArray, List.set_cons_zero, List.set_cons_succ]
  refine Txt.tl_nil ?_
  go_wp2
  go_ret
  exact ⟨rfl, STo.of (HM.out.take 5)⟩
end Sq
end Go.Proofs.Ytgpimeobkacniaa
