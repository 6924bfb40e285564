/-
  seq.Insert.
-/
import Derived.Test.YtgpimeobkacniaaSq4
set_option linter.unusedVariables false
set_option linter.unusedSimpArgs false
namespace Go.Proofs.Ytgpimeobkacniaa
open Go.RowKit
namespace Sq
open Oct Ids Mp
open Mem (M It blk ids rows)
theorem fold_set : ∀ (cs : List Value) (off j : Nat) (cells : List Value), off + j + cs.length ≤ cells.length →
    ((cs.zipIdx j).foldl (fun (a : Array Value) (p : Value × Nat) => a.setIfInBounds (off + p.2) p.1) cells.toArray) = (cells.take (off + j) ++ cs ++ cells.drop (off + j + cs.length)).toArray
  | [], off, j, cells, h => by simp
  | c :: cs, off, j, cells, h => by
    simp only [List.length_cons] at h
    rw [List.zipIdx_cons, List.foldl_cons, List.setIfInBounds_toArray, fold_set cs off (j + 1) (cells.set (off + j) c) (by rw [List.length_set]; omega)]
    refine congrArg List.toArray ?_
    have hlt : off + j < cells.length := by omega
    have e1 : (cells.set (off + j) c).take (off + (j + 1)) = cells.take (off + j) ++ [c] := by
      rw [show off + (j + 1) = off + j + 1 by omega, List.take_add_one, List.take_set_of_le (Nat.le_refl _), List.getElem?_set_self hlt]
      rfl
    have e2 : (cells.set (off + j) c).drop (off + (j + 1) + cs.length) = cells.drop (off + j + (c :: cs).length) := by
      rw [List.drop_set_of_lt (by omega), List.length_cons]
      congr 1; omega
    rw [e1, e2]
    simp
theorem fill_cons {place : Nat → Option (Nat × Nat)} {cells : List Value} {i off size : Nat} {v : Value} {rest : List (Nat × Value)} {cs : List Value} (hp : place i = some (off, size)) (hv : v.cells = cs.toArray) (hs : cs.length = size) (hb : off + size ≤ cells.length) :
    Instr.fill place cells.toArray ((i, v) :: rest) = Instr.fill place (cells.take off ++ cs ++ cells.drop (off + size)).toArray rest := by
  have h1 : ¬ ((v.cells.size ≠ size || off + v.cells.size > cells.toArray.size) = true) := by
    rw [hv]
    simp [hs]
    omega
  rw [Instr.fill]
  simp only [hp]
  rw [if_neg h1, hv]
  have := fold_set cs off 0 cells (by omega)
  rw [Nat.add_zero, hs] at this
  rw [← this]
  simp
theorem built_N (parts : List (Nat × Value)) : Try.prog.built 124 parts = Instr.fill (fun i => #[(0, 1), (1, 32), (33, 1)][i]?) nz parts := by kernel_rfl
theorem built_ne (x : Nd) : Try.prog.built 124 [(0, .int .i64 x.h), (1, idv x.r), (2, .string x.v)] = some (ne x).toArray := by
  have hz : nz = (Value.int .i64 0 :: ((List.replicate 32 (0 : UInt8)).map bv ++ [Value.string ByteArray.empty])).toArray := rfl
  rw [built_N, hz, fill_cons (off := 0) (size := 1) (cs := [.int .i64 x.h]) rfl rfl rfl (by decide)]
  rw [List.take_zero, List.nil_append]
  have lz : ((Value.int .i64 0 :: ((List.replicate 32 (0 : UInt8)).map bv ++ [Value.string ByteArray.empty])).drop (0 + 1)).length = 33 := by decide
  generalize (Value.int .i64 0 :: ((List.replicate 32 (0 : UInt8)).map bv ++ [Value.string ByteArray.empty])).drop (0 + 1) = R at lz ⊢
  have l32 : (x.r.map bv).length = 32 := by rw [List.length_map, x.hr]
  rw [fill_cons (off := 1) (size := 32) (cs := x.r.map bv) rfl rfl l32 (by rw [List.length_append, lz]; show 1 + 32 ≤ 1 + 33; decide)]
  rw [List.take_left' (by rfl), List.drop_append]
  rw [show ([Value.int .i64 x.h] : List Value).length = 1 from rfl, List.drop_eq_nil_of_le (by show 1 ≤ 1 + 32; decide), List.nil_append]
  have lr : (R.drop (1 + 32 - 1)).length = 1 := by rw [List.length_drop, lz]
  generalize R.drop (1 + 32 - 1) = R2 at lr ⊢
  have l2 : ([Value.int .i64 x.h] ++ x.r.map bv).length = 33 := by rw [List.length_append, l32]; rfl
  rw [fill_cons (off := 33) (size := 1) (cs := [.string x.v]) rfl rfl rfl (by rw [List.length_append, l2, lr]; decide)]
  rw [List.take_left' l2, List.drop_eq_nil_of_le (by rw [List.length_append, l2, lr]; decide), List.append_nil, Instr.fill]
  unfold ne
  rw [List.append_assoc]
  rfl
section
variable {ops : Array Oper} {rest : List Oper} {o : Oper} {a : Act} {w : World} {Q : Exit → Act → World → Prop}
theorem wl_buildL {T : TypeId} {parts : Array (Nat × Operand)} (hgd : o.guard = none) (ho : o.op = .build T parts) (ps : List (Nat × Value)) (hp : (parts.toList.map fun (i, x) => (i, a.eval x)) = ps) {cs : Array Value} (hb : Try.prog.built T ps = some cs) (h : wpList Try.prog ops Q rest (a.put o.dst (.agg cs)) w) : wpList Try.prog ops Q (o :: rest) a w :=
  St.wl_buildV hgd ho (by rw [Array.toList_map, hp]; exact hb) h
end
theorem lookN_one (N : Nds) (u : List UInt8) : (lookN N u).toArray.all (·.oneCell') = true := by
  unfold lookN
  cases fget N u with
  | none => exact (by show nz.toList.toArray.all _ = true; rw [Array.toArray_toList]; exact encN.all ⟨0, List.replicate 32 0, rfl, ByteArray.empty⟩)
  | some p => exact encN.all p
theorem keep_new2 {w w1 : World} {o : Obj} (k : Keep (fun _ => False) w (w1.alloc o)) (k1 : Keep (fun _ => False) w w1) (cs : Array Value) : Keep (fun _ => False) w ((w1.alloc o).setRow w1.heap.size cs) :=
  k.trans' ((Keep.refl (fun k => k = w1.heap.size) _).setRow w1.heap.size cs (fun _ => rfl)) (fun _ _ h => h) (fun j hj (e : j = w1.heap.size) => by have := k1.size; omega)
theorem STo.ofI {w w' : World} {b bn bb bg : Nat} {B : Bhs} {N' : Nds} {B' : Bhs} {G' : List (List UInt8)} {it : List It} (h : M (Sq.foot b bn bb bg B) w w' it) (i : Nat) (hi : it[i]? = some (sqI b bn bb bg N' B' G')) : STo w w' b bn bb bg B N' B' G' := by
  refine ⟨h.get i hi, h.keep, fun k hk => ?_⟩
  obtain ⟨h1, h2⟩ := h.rng i _ hi k hk
  rcases h1 with h1 | h1
  · exact .inr ⟨h1, h2⟩
  · exact .inl h1
/-- What Insert comes to. -/
structure InsPost (w : World) (b bn bb bg : Nat) (N : Nds) (B : Bhs) (G : List (List UInt8)) (u : List UInt8) (x : Nd) (e : Ending) (w' : World) : Prop where
  ret : e = .returned (.int .i64 (chk u x))
  sq : if chk u x = 0 ∧ u ∉ N.map (·.1) then ∃ v, STo w w' b bn bb bg B (fput N u x) (fput B x.r (v, insN N x.h u (rowB B x.r).2)) G else Keep (fun _ => False) w w'
set_option maxRecDepth 100000 in
set_option maxHeartbeats 8000000 in
theorem insert_any (w : World) (b bn bb bg : Nat) (N : Nds) (B : Bhs) (G : List (List UInt8)) (h : SqAt w b bn bb bg N B G) (hB : ∀ p ∈ B, p.2.2.length ≤ 1000) (u : List UInt8) (hu : u.length = 32) (x : Nd) (hx : x.v.size ≤ maxLen) :
    Calls Try.prog 48 #[.pointer (some ⟨b, 0, none⟩), idv u, .int .i64 x.h, idv x.r, .string x.v] w (InsPost w b bn bb bg N B G u x) := by
  have HM : Hid (M (foot b bn bb bg B) w _ [sqI b bn bb bg N B G, blk w.heap.size (.cells (u.map bv).toArray 35), blk (w.heap.size + 1) (.cells (x.r.map bv).toArray 35)]) :=
    ((M.start1 (x := sqI b bn bb bg N B G) h (fun k hk => by
      rcases hk with (hk | hk | hk | hk) | hk
      · exact (h.all.rng 0 _ rfl k hk).2
      · exact (h.all.rng 1 _ rfl k hk).2
      · exact (h.all.rng 2 _ rfl k hk).2
      · exact (h.all.rng 3 _ rfl k hk).2
      · exact (h.all.rng 4 _ rfl k hk).2)).alloc (.cells (u.map bv).toArray 35) rfl).alloc (.cells (x.r.map bv).toArray 35) (by simp)
  have KW : Hid (Keep (fun _ => False) w _) := ((Keep.refl (fun _ => False) w).alloc (.cells (u.map bv).toArray 35)).alloc (.cells (x.r.map bv).toArray 35)
  have HU : Hid (u.length = 32) := hu
  have HR : Hid (x.r.length = 32) := x.hr
  have Hsz : Hid ((ne x).toArray.size = 34) := by show _ = _; rw [List.size_toArray, ne_len]
  obtain ⟨t, ht⟩ : ∃ t, chk u x = t := ⟨_, rfl⟩
  have HT : Hid (chk u x = t) := ht
  have HCk : Hid (∀ w, Calls Try.prog 86 #[idv u, .agg (ne x).toArray] w fun e w' => e = .returned (.int .i64 t) ∧ Keep (fun _ => False) w w') := fun w => by
    have := check_any w u hu x hx
    rwa [ht] at this
  have HHg : Hid (∀ w, SqAt w b bn bb bg N B G → Calls Try.prog 88 #[.pointer (some ⟨b, 0, none⟩), idv u, .agg (ne x).toArray] w fun e w' => e = .returned (.tuple #[]) ∧ ∃ v, STo w w' b bn bb bg B (fput N u x) (fput B x.r (v, insN N x.h u (rowB B x.r).2)) G) := fun w hs => hang_any w b bn bb bg N B G hs hB u hu x
  clear h hB hu hx ht
  go_enter Try.func48, Try.ntmps48
  by_cases h0 : t = 0
  case neg =>
    have h0' : (t != 0) = true := by simpa using h0
    have H0 : Hid (t ≠ 0) := h0
    clear h0
    go_wp2_with (first | (go_at_call 52; refine (snone _ b bn bb bg N B G (HM.out.get 0 rfl)).mono ?_; rintro e w1 ⟨rfl, rfl⟩) | ((with_reducible refine at_load 35 ?_); first | (refine Ids.wl_load rfl rfl rfl HU.out (HM.out.range 1 rfl) ?_; simp only [Act.put, List.setIfInBounds_toArray, List.set_cons_zero, List.set_cons_succ]) | (refine Ids.wl_load rfl rfl rfl HR.out (HM.out.range 2 rfl) ?_; simp only [Act.put, List.setIfInBounds_toArray, List.set_cons_zero, List.set_cons_succ])) | (refine wl_buildL rfl rfl _ rfl (cs := (ne x).toArray) (built_ne x) ?_; simp only [Act.put, List.setIfInBounds_toArray, List.set_cons_zero, List.set_cons_succ]) | ((with_reducible refine at_alloc 124 ?_); refine St.wl_alloc tyN rfl rfl (by (try simp only [World.size_alloc]); rfl) ?_; simp only [Act.put, List.setIfInBounds_toArray, List.set_cons_zero, List.set_cons_succ]) | ((with_reducible refine at_store 124 ?_); refine St.wl_storeN (W := (w.alloc (.cells (u.map bv).toArray 35)).alloc (.cells (x.r.map bv).toArray 35)) tyN rfl rfl rfl rfl rfl (by (try simp only [World.size_alloc])) (show _ = Value.agg (ne x).toArray from rfl) Hsz.out rfl (encN.all x) ?_; have HM : Hid _ := HM.out.alloc (.cells (ne x).toArray 124) (b := w.heap.size + 1 + 1) (by simp); have KW : Hid _ := KW.out.alloc (.cells (ne x).toArray 124)) | ((with_reducible refine at_load 124 ?_); refine St.wl_load tyN rfl rfl rfl (HM.out.range 3 rfl) (ne_len x) ?_; simp only [Act.put, List.setIfInBounds_toArray, List.set_cons_zero, List.set_cons_succ]) | (go_at_call 86; refine (HCk.out _).mono ?_; rintro e w2 ⟨rfl, k2⟩; have HM : Hid _ := HM.out.calm k2; have KW : Hid _ := KW.out.trans k2; clear k2) | (go_at_call 88; refine (HHg.out _ (HM.out.get 0 rfl)).mono ?_; rintro e w9 ⟨rfl, v9, t9⟩; have HM : Hid _ := M.sto HM.out 0 rfl t9; clear t9))
    go_ret
    refine ⟨congrArg (fun q => Ending.returned (Value.int .i64 q)) HT.out.symm, ?_⟩
    rw [if_neg (fun h => H0.out (by rw [← HT.out]; exact h.1))]
    exact KW.out
  subst h0
  go_wp2_with (first | (go_at_call 52; refine (snone _ b bn bb bg N B G (HM.out.get 0 rfl)).mono ?_; rintro e w1 ⟨rfl, rfl⟩) | ((with_reducible refine at_load 35 ?_); first | (refine Ids.wl_load rfl rfl rfl HU.out (HM.out.range 1 rfl) ?_; simp only [Act.put, List.setIfInBounds_toArray, List.set_cons_zero, List.set_cons_succ]) | (refine Ids.wl_load rfl rfl rfl HR.out (HM.out.range 2 rfl) ?_; simp only [Act.put, List.setIfInBounds_toArray, List.set_cons_zero, List.set_cons_succ])) | (refine wl_buildL rfl rfl _ rfl (cs := (ne x).toArray) (built_ne x) ?_; simp only [Act.put, List.setIfInBounds_toArray, List.set_cons_zero, List.set_cons_succ]) | ((with_reducible refine at_alloc 124 ?_); refine St.wl_alloc tyN rfl rfl (by (try simp only [World.size_alloc]); rfl) ?_; simp only [Act.put, List.setIfInBounds_toArray, List.set_cons_zero, List.set_cons_succ]) | ((with_reducible refine at_store 124 ?_); refine St.wl_storeN (W := (w.alloc (.cells (u.map bv).toArray 35)).alloc (.cells (x.r.map bv).toArray 35)) tyN rfl rfl rfl rfl rfl (by (try simp only [World.size_alloc])) (show _ = Value.agg (ne x).toArray from rfl) Hsz.out rfl (encN.all x) ?_; have HM : Hid _ := HM.out.alloc (.cells (ne x).toArray 124) (b := w.heap.size + 1 + 1) (by simp); have KW : Hid _ := KW.out.alloc (.cells (ne x).toArray 124)) | ((with_reducible refine at_load 124 ?_); refine St.wl_load tyN rfl rfl rfl (HM.out.range 3 rfl) (ne_len x) ?_; simp only [Act.put, List.setIfInBounds_toArray, List.set_cons_zero, List.set_cons_succ]) | (go_at_call 86; refine (HCk.out _).mono ?_; rintro e w2 ⟨rfl, k2⟩; have HM : Hid _ := HM.out.calm k2; have KW : Hid _ := KW.out.trans k2; clear k2) | (go_at_call 88; refine (HHg.out _ (HM.out.get 0 rfl)).mono ?_; rintro e w9 ⟨rfl, v9, t9⟩; have HM : Hid _ := M.sto HM.out 0 rfl t9; clear t9))
  have HM : Hid _ := HM.out.drew
  have KW : Hid _ := KW.out.drew
  have c0 := (show SqAt _ b bn bb bg N B G from HM.out.get 0 rfl).cells.1
  have HIs : Hid _ := (show SqAt _ b bn bb bg N B G from HM.out.get 0 rfl).all.get 1 rfl
  refine Txt.wp_region_text (fun _ => True) [0, 0, 0, 1, 1, 1, 0, 0, 0, 3, 4, 0] (by kernel_rfl) (by kernel_rfl) trivial ?_
  (repeat (first | (refine Txt.tl_pure (v := ?_) (by rfl) ?_ ?_; rotate_left; (focus (intro _; go_simp; try with_reducible rfl)); simp only [Act.put, List.setIfInBounds_toArray, List.set_cons_zero, List.set_cons_succ]) | (refine Txt.tl_load (v := ?_) (by rfl) (by rfl) (by rfl) (by kernel_rfl) ?_ ?_; rotate_left; (focus assumption); simp only [Act.put, List.setIfInBounds_toArray, List.set_cons_zero, List.set_cons_succ]) | (refine Txt.tl_rowN (n := 32) (ty := 35) (by rfl) (by rfl) (by rfl) (HM.out.range 1 rfl) (by kernel_rfl) (by rw [List.length_map]; exact HU.out) ?_; simp only [Act.put, List.setIfInBounds_toArray, List.set_cons_zero, List.set_cons_succ]) | (refine Txt.tl_skip (by rfl) trivial ?_; simp only [Act.put, List.setIfInBounds_toArray, List.set_cons_zero, List.set_cons_succ])))
  refine Mp.tl_lookok idKey Try.underlying93 (by rfl) rfl rfl HIs.out zeroN HU.out rfl (look_nd N u) rfl ?_
  simp only [Act.put, List.setIfInBounds_toArray, List.set_cons_zero, List.set_cons_succ]
  (repeat (first | (refine Txt.tl_pure (v := ?_) (by rfl) ?_ ?_; rotate_left; (focus (intro _; go_simp; try with_reducible rfl)); simp only [Act.put, List.setIfInBounds_toArray, List.set_cons_zero, List.set_cons_succ]) | (refine Txt.tl_load (v := ?_) (by rfl) (by rfl) (by rfl) (by kernel_rfl) ?_ ?_; rotate_left; (focus assumption); simp only [Act.put, List.setIfInBounds_toArray, List.set_cons_zero, List.set_cons_succ]) | (refine Txt.tl_rowN (n := 32) (ty := 35) (by rfl) (by rfl) (by rfl) (HM.out.range 1 rfl) (by kernel_rfl) (by rw [List.length_map]; exact HU.out) ?_; simp only [Act.put, List.setIfInBounds_toArray, List.set_cons_zero, List.set_cons_succ]) | (refine Txt.tl_skip (by rfl) trivial ?_; simp only [Act.put, List.setIfInBounds_toArray, List.set_cons_zero, List.set_cons_succ])))
  refine Txt.tl_alloc (by rfl) ?_
  refine St.wp_alloc tyN rfl ?_
  have KW0 : Hid _ := KW.out
  have HM : Hid _ := HM.out.alloc (.cells nz 124) rfl
  have KW : Hid _ := KW.out.alloc (.cells nz 124)
  refine ⟨⟨Txt.Le.alloc _ _, trivial⟩, ?_⟩
  simp only [Act.put, List.setIfInBounds_toArray, List.set_cons_zero, List.set_cons_succ]
  clear c0 HIs
  refine Txt.tl_loud (by rfl) ?_
  refine St.wp_store tyN rfl rfl rfl rfl (cs := (lookN N u).toArray) (by rw [List.size_toArray]; exact lookN_len N u) (lookN_one N u) (HM.out.get 4 rfl) rfl ?_
  have HM : Hid _ := HM.out.setr 4 rfl (lookN N u).toArray
  have KW : Hid _ := keep_new2 KW.out KW0.out (lookN N u).toArray
  refine ⟨trivial, ?_⟩
  (repeat (first | (refine Txt.tl_pure (v := ?_) (by rfl) ?_ ?_; rotate_left; (focus (intro _; go_simp; try with_reducible rfl)); simp only [Act.put, List.setIfInBounds_toArray, List.set_cons_zero, List.set_cons_succ]) | (refine Txt.tl_load (v := ?_) (by rfl) (by rfl) (by rfl) (by kernel_rfl) ?_ ?_; rotate_left; (focus assumption); simp only [Act.put, List.setIfInBounds_toArray, List.set_cons_zero, List.set_cons_succ]) | (refine Txt.tl_rowN (n := 32) (ty := 35) (by rfl) (by rfl) (by rfl) (HM.out.range 1 rfl) (by kernel_rfl) (by rw [List.length_map]; exact HU.out) ?_; simp only [Act.put, List.setIfInBounds_toArray, List.set_cons_zero, List.set_cons_succ]) | (refine Txt.tl_skip (by rfl) trivial ?_; simp only [Act.put, List.setIfInBounds_toArray, List.set_cons_zero, List.set_cons_succ])))
  refine Txt.tl_nil ?_
  cases hk : (get (dN N) u).isSome with
  | true =>
    go_wp2
    go_ret
    have hm : ¬ (chk u x = 0 ∧ u ∉ N.map (·.1)) := fun h => by
      rw [show dN N = enc2 fN N from rfl, get_enc2, Option.isSome_map] at hk
      rw [fget_none.2 h.2] at hk
      cases hk
    refine ⟨congrArg (fun q => Ending.returned (Value.int .i64 q)) HT.out.symm, ?_⟩
    rw [if_neg hm]
    exact KW.out
  | false =>
    have hm : chk u x = 0 ∧ u ∉ N.map (·.1) := ⟨HT.out, fget_none.1 (by
      rw [show dN N = enc2 fN N from rfl, get_enc2, Option.isSome_map] at hk
      cases he : fget N u with
      | none => rfl
      | some p => rw [he] at hk; cases hk)⟩
    have Hm : Hid _ := hm
    clear hm
    go_wp2_with (first | (go_at_call 52; refine (snone _ b bn bb bg N B G (HM.out.get 0 rfl)).mono ?_; rintro e w1 ⟨rfl, rfl⟩) | ((with_reducible refine at_load 35 ?_); first | (refine Ids.wl_load rfl rfl rfl HU.out (HM.out.range 1 rfl) ?_; simp only [Act.put, List.setIfInBounds_toArray, List.set_cons_zero, List.set_cons_succ]) | (refine Ids.wl_load rfl rfl rfl HR.out (HM.out.range 2 rfl) ?_; simp only [Act.put, List.setIfInBounds_toArray, List.set_cons_zero, List.set_cons_succ])) | (refine wl_buildL rfl rfl _ rfl (cs := (ne x).toArray) (built_ne x) ?_; simp only [Act.put, List.setIfInBounds_toArray, List.set_cons_zero, List.set_cons_succ]) | ((with_reducible refine at_alloc 124 ?_); refine St.wl_alloc tyN rfl rfl (by (try simp only [World.size_alloc]); rfl) ?_; simp only [Act.put, List.setIfInBounds_toArray, List.set_cons_zero, List.set_cons_succ]) | ((with_reducible refine at_store 124 ?_); refine St.wl_storeN (W := (w.alloc (.cells (u.map bv).toArray 35)).alloc (.cells (x.r.map bv).toArray 35)) tyN rfl rfl rfl rfl rfl (by (try simp only [World.size_alloc])) (show _ = Value.agg (ne x).toArray from rfl) Hsz.out rfl (encN.all x) ?_; have HM : Hid _ := HM.out.alloc (.cells (ne x).toArray 124) (b := w.heap.size + 1 + 1) (by simp); have KW : Hid _ := KW.out.alloc (.cells (ne x).toArray 124)) | ((with_reducible refine at_load 124 ?_); refine St.wl_load tyN rfl rfl rfl (HM.out.range 3 rfl) (ne_len x) ?_; simp only [Act.put, List.setIfInBounds_toArray, List.set_cons_zero, List.set_cons_succ]) | (go_at_call 86; refine (HCk.out _).mono ?_; rintro e w2 ⟨rfl, k2⟩; have HM : Hid _ := HM.out.calm k2; have KW : Hid _ := KW.out.trans k2; clear k2) | (go_at_call 88; refine (HHg.out _ (HM.out.get 0 rfl)).mono ?_; rintro e w9 ⟨rfl, v9, t9⟩; have HM : Hid _ := M.sto HM.out 0 rfl t9; clear t9))
    go_ret
    refine ⟨congrArg (fun q => Ending.returned (Value.int .i64 q)) HT.out.symm, ?_⟩
    rw [if_pos Hm.out]
    exact ⟨v9, STo.ofI HM.out 0 rfl⟩
end Sq
end Go.Proofs.Ytgpimeobkacniaa
