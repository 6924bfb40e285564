/-
  seq.List.
-/
import Derived.Test.YtgpimeobkacniaaSq7
set_option linter.unusedVariables false
set_option linter.unusedSimpArgs false
namespace Go.Proofs.Ytgpimeobkacniaa
open Go.RowKit
namespace Sq
open Oct Ids Mp
open Mem (M It blk ids rows)
def vN (N : Nds) (y : List UInt8) : ByteArray := ((fget N y).map (·.v)).getD ByteArray.empty
theorem lookN_v (N : Nds) (y : List UInt8) : (lookN N y).toArray[33]? = some (.string (vN N y)) := by
  unfold lookN vN
  cases fget N y with
  | none => rfl
  | some p => exact ne_val p
theorem run_fv (N : Nds) (y : List UInt8) (w : World) : (Instr.field 124 (.agg (lookN N y).toArray) 2).run Try.prog w = .ok (.string (vN N y)) w := by
  have h := lookN_v N y
  rw [List.getElem?_toArray] at h
  simp [Instr.field, run_underlying Try.underlying124, part, isAgg, run_underlying Try.underlying9, asAgg, h]
/-- A pair without a key. -/
def pe (v : ByteArray) : List Value := [.string ByteArray.empty, .string v]
theorem encP : St.Enc 2 pe := ⟨fun _ => rfl, fun x u hu => by
  unfold pe at hu
  simp only [List.mem_cons, List.not_mem_nil, or_false] at hu
  rcases hu with rfl | rfl <;> rfl⟩
theorem slP : SlT Try.prog 68 92 (.agg #[.string ByteArray.empty, .string ByteArray.empty]) 2 32 := SlT.mk' Try.underlying68 (by kernel_rfl) rfl (by omega)
theorem built_P (v : ByteArray) : Try.prog.built 92 [(1, .string v)] = some (pe v).toArray := by kernel_rfl
/-- What List comes to. -/
def lst (N : Nds) (G l : List (List UInt8)) : List ByteArray := (l.filter fun y => decide (y ∉ G)).map (vN N)
structure LstPost (w : World) (b bn bb bg : Nat) (N : Nds) (B : Bhs) (G : List (List UInt8)) (l : List ByteArray) (e : Ending) (w' : World) : Prop where
  ex : ∃ v, e = .returned v ∧ M (foot b bn bb bg B) w w' [sqI b bn bb bg N B G, Mem.rows 92 2 pe v l]
theorem look_G (G : List (List UInt8)) (y : List UInt8) : (get (dG G) y).getD (.bool false) = .bool (decide (y ∈ G)) := by
  obtain ⟨h1, h2⟩ := fnd_dG y G 0
  unfold Mp.get
  by_cases h : y ∈ G
  · obtain ⟨i, hi⟩ := h1 h
    rw [hi, decide_eq_true h]
    rfl
  · rw [h2 h, decide_eq_false h]
    rfl
theorem zeroB (w : World) : (zeroValue 4).run Try.prog w = .ok (.bool false) w := zero_of (n := 1) (by kernel_rfl) w
theorem ex_buildL {o : Oper} {a : Act} {T : TypeId} {parts : Array (Nat × Operand)} (ho : o.op = .build T parts) (ps : List (Nat × Value)) (hp : (parts.toList.map fun (i, x) => (i, a.eval x)) = ps) {cs : Array Value} (hb : Try.prog.built T ps = some cs) : ∀ w, (execOp a.eval o).run Try.prog w = .ok (.value (.agg cs)) w := fun w => by
  have e : (parts.map fun (i, x) => (i, a.eval x)) = ps.toArray := Array.toList_inj.1 (by rw [Array.toList_map]; exact hp)
  have hr : (Instr.build T ps.toArray).run Try.prog w = .ok (.agg cs) w := run_build w T ps.toArray cs (by simpa using hb)
  unfold execOp
  simp only [ho, e, Sem.run_bind, hr, Result.andThen_ok, Sem.run_pure]
theorem lst_in {N : Nds} {G l : List (List UInt8)} {k : Nat} {x : List UInt8} (hx : l[k]? = some x) (h : x ∈ G) : lst N G (l.take (k + 1)) = lst N G (l.take k) := by
  unfold lst
  rw [List.take_add_one, hx, List.filter_append]
  simp [h]
theorem lst_out {N : Nds} {G l : List (List UInt8)} {k : Nat} {x : List UInt8} (hx : l[k]? = some x) (h : x ∉ G) : lst N G (l.take (k + 1)) = lst N G (l.take k) ++ [vN N x] := by
  unfold lst
  rw [List.take_add_one, hx, List.filter_append, List.map_append]
  simp [h]
theorem lst_len {N : Nds} {G l : List (List UInt8)} (k : Nat) : (lst N G (l.take k)).length ≤ k := by
  unfold lst
  rw [List.length_map]
  exact Nat.le_trans (List.length_filter_le _ _) (List.length_take_le _ _)
set_option maxRecDepth 100000 in
set_option maxHeartbeats 8000000 in
theorem slist_any (w : World) (b bn bb bg : Nat) (N : Nds) (B : Bhs) (G : List (List UInt8)) (h : SqAt w b bn bb bg N B G) (hB : ∀ r, (rowsB B r).length ≤ 1000) (n : Nat) (hd : Dep (rowsB B) n Zi) (hl : (pre (rowsB B) (n + 1) Zi).length ≤ 10000) :
    Calls Try.prog 40 #[.pointer (some ⟨b, 0, none⟩)] w (LstPost w b bn bb bg N B G (lst N G (pre (rowsB B) (n + 1) Zi))) := by
  have HM : Hid (M (foot b bn bb bg B) w _ [sqI b bn bb bg N B G]) :=
    (M.start1 (x := sqI b bn bb bg N B G) h (fun k hk => by
      rcases hk with (hk | hk | hk | hk) | hk
      · exact (h.all.rng 0 _ rfl k hk).2
      · exact (h.all.rng 1 _ rfl k hk).2
      · exact (h.all.rng 2 _ rfl k hk).2
      · exact (h.all.rng 3 _ rfl k hk).2
      · exact (h.all.rng 4 _ rfl k hk).2))
  have HO : Hid (Calls Try.prog 16 #[.pointer (some ⟨b, 0, none⟩)] w (OrdPost w b bn bb bg N B G (pre (rowsB B) (n + 1) Zi))) := order_any w b bn bb bg N B G h hB n hd hl
  have HL : Hid ((pre (rowsB B) (n + 1) Zi).length ≤ 10000) := hl
  generalize pre (rowsB B) (n + 1) Zi = l at HO HL ⊢
  clear h hB hd hl
  go_enter Try.func40, Try.ntmps40
  go_wp2_with (first | (go_at_call 16; refine HO.out.mono ?_; rintro e w1 ⟨v, rfl, m1⟩; obtain ⟨oa, oc, e1, oat, _⟩ := (show Ids.Own w1 v l from m1.get 1 rfl).at; subst e1; have HM : Hid (M (foot b bn bb bg B) w w1 [sqI b bn bb bg N B G, ids (.slice oa l.length oc) l]) := m1; clear m1 oat; obtain ⟨q, hq⟩ : ∃ q, l.length = q := ⟨_, rfl⟩; have Hq : Hid (l.length = q) := hq; rw [hq] at HM ⊢; clear hq))
  have HM : Hid (M (foot b bn bb bg B) w w1 [sqI b bn bb bg N B G, ids (.slice oa q oc) l, Mem.rows 92 2 pe (.slice none 0 0) []]) := HM.out.nilR 92 2 pe
  have hq10 : q ≤ 10000 := by have := HL.out; have := Hq.out; omega
  go_loopw [3, 9] (fun s3 s9 wr => ∃ (k : Nat) (v : Value), k ≤ q ∧ s3 = v ∧ s9 = .int .i64 k ∧ M (foot b bn bb bg B) w wr [sqI b bn bb bg N B G, ids (.slice oa q oc) l, Mem.rows 92 2 pe v (lst N G (l.take k))]) (fun _ s9 _ => q - (intOf s9).toNat)
  case atStart => exact ⟨0, _, Nat.zero_le _, rfl, by go_num, HM.out⟩
  case round =>
    clear HM
    obtain ⟨k, v, hk, e1, rfl, hM⟩ := hrel
    replace e1 := e1.symm
    subst e1
    have HM : Hid _ := hM
    clear hM
    by_cases hlt : k < q
    · obtain ⟨x, hx⟩ : ∃ x, l[k]? = some x := ⟨_, List.getElem?_eq_getElem (by rw [Hq.out]; exact hlt)⟩
      have hat : At wr oa l.length l := by
        obtain ⟨a', c', e', oat, _⟩ := (show Ids.Own wr (.slice oa q oc) l from HM.out.get 1 rfl).at
        simp only [Value.slice.injEq] at e'
        rw [e'.1]
        exact oat
      have HU : Hid (x.length = 32) := hat.size x (List.mem_of_getElem? hx)
      have HUs : Hid ((x.map bv).toArray.size = 32) := by show _ = _; rw [List.size_toArray, List.length_map]; exact HU.out
      obtain ⟨g0, o0, e0, _, hr0⟩ := hat.lay.resolve_left (by rw [Hq.out]; omega)
      subst e0
      have R1 : Hid (wr.rangeAt g0 (o0 + k * 32) (x.map bv)) := hr0 k x hx
      have Hx : Hid (l[k]? = some x) := hx
      have HLk : Hid ((lst N G (l.take k)).length ≤ 10000) := by show _ ≤ _; have := lst_len (N := N) (G := G) (l := l) k; have := HL.out; have := Hq.out; omega
      clear hr0 hx hat
      go_wp2_with (first | ((with_reducible refine at_load 35 ?_); refine Ids.wl_load rfl rfl rfl HU.out R1.out ?_; simp only [Act.put, List.setIfInBounds_toArray, List.set_cons_zero, List.set_cons_succ]) | ((with_reducible refine at_alloc 35 ?_); refine St.wl_alloc tyI rfl rfl (by (try simp only [World.size_alloc]); rfl) ?_; simp only [Act.put, List.setIfInBounds_toArray, List.set_cons_zero, List.set_cons_succ]) | ((with_reducible refine at_store 35 ?_); refine St.wl_storeN (W := wr) tyI rfl rfl rfl rfl rfl (by (try simp only [World.size_alloc])) (show _ = Value.agg (x.map bv).toArray from rfl) HUs.out rfl (one_bv _) ?_; have HM : Hid _ := HM.out.alloc (.cells (x.map bv).toArray 35) rfl))
      have HM : Hid _ := HM.out.drew
      have c2 := (show SqAt _ b bn bb bg N B G from HM.out.get 0 rfl).cells.2.2
      have HIs : Hid _ := (show SqAt _ b bn bb bg N B G from HM.out.get 0 rfl).all.get 3 rfl
      refine Txt.wp_region_text (fun _ => True) [0, 0, 0, 1, 1, 1, 0] (by kernel_rfl) (by kernel_rfl) trivial ?_
      (repeat (first | (refine Txt.tl_pure (v := ?_) (by rfl) ?_ ?_; rotate_left; (focus (intro _; go_simp; try with_reducible rfl)); simp only [Act.put, List.setIfInBounds_toArray, List.set_cons_zero, List.set_cons_succ]) | (refine Txt.tl_load (v := ?_) (by rfl) (by rfl) (by rfl) (by kernel_rfl) ?_ ?_; rotate_left; (focus assumption); simp only [Act.put, List.setIfInBounds_toArray, List.set_cons_zero, List.set_cons_succ]) | (refine Txt.tl_rowN (n := 32) (ty := 35) (by rfl) (by rfl) (by rfl) (HM.out.range 3 rfl) (by kernel_rfl) (by rw [List.length_map]; exact HU.out) ?_; simp only [Act.put, List.setIfInBounds_toArray, List.set_cons_zero, List.set_cons_succ]) | (refine Txt.tl_skip (by rfl) trivial ?_; simp only [Act.put, List.setIfInBounds_toArray, List.set_cons_zero, List.set_cons_succ])))
      refine Mp.tl_look idKey Try.underlying73 (by rfl) rfl rfl HIs.out zeroB HU.out rfl (look_G G x) ?_
      simp only [Act.put, List.setIfInBounds_toArray, List.set_cons_zero, List.set_cons_succ]
      clear c2 HIs
      by_cases hg : x ∈ G
      · rw [decide_eq_true hg]
        have HE : Hid _ := lst_in (N := N) Hx.out hg
        (repeat (first | (refine Txt.tl_pure (v := ?_) (by rfl) ?_ ?_; rotate_left; (focus (intro _; go_simp; try with_reducible rfl)); simp only [Act.put, List.setIfInBounds_toArray, List.set_cons_zero, List.set_cons_succ]) | (refine Txt.tl_load (v := ?_) (by rfl) (by rfl) (by rfl) (by kernel_rfl) ?_ ?_; rotate_left; (focus assumption); simp only [Act.put, List.setIfInBounds_toArray, List.set_cons_zero, List.set_cons_succ]) | (refine Txt.tl_rowN (n := 32) (ty := 35) (by rfl) (by rfl) (by rfl) (HM.out.range 3 rfl) (by kernel_rfl) (by rw [List.length_map]; exact HU.out) ?_; simp only [Act.put, List.setIfInBounds_toArray, List.set_cons_zero, List.set_cons_succ]) | (refine Txt.tl_skip (by rfl) trivial ?_; simp only [Act.put, List.setIfInBounds_toArray, List.set_cons_zero, List.set_cons_succ])))
        refine Txt.tl_nil ?_
        go_wp2
        go_roundw
        case rel => exact ⟨k + 1, _, by omega, rfl, by go_num, by rw [HE.out]; exact HM.out.take 3⟩
        case measure => simp [intOf]; omega
      · rw [decide_eq_false hg]
        have HE : Hid _ := lst_out (N := N) Hx.out hg
        (repeat (first | (refine Txt.tl_pure (v := ?_) (by rfl) ?_ ?_; rotate_left; (focus (intro _; go_simp; try with_reducible rfl)); simp only [Act.put, List.setIfInBounds_toArray, List.set_cons_zero, List.set_cons_succ]) | (refine Txt.tl_load (v := ?_) (by rfl) (by rfl) (by rfl) (by kernel_rfl) ?_ ?_; rotate_left; (focus assumption); simp only [Act.put, List.setIfInBounds_toArray, List.set_cons_zero, List.set_cons_succ]) | (refine Txt.tl_rowN (n := 32) (ty := 35) (by rfl) (by rfl) (by rfl) (HM.out.range 3 rfl) (by kernel_rfl) (by rw [List.length_map]; exact HU.out) ?_; simp only [Act.put, List.setIfInBounds_toArray, List.set_cons_zero, List.set_cons_succ]) | (refine Txt.tl_skip (by rfl) trivial ?_; simp only [Act.put, List.setIfInBounds_toArray, List.set_cons_zero, List.set_cons_succ])))
        refine Txt.tl_nil ?_
        go_wp2
        have HM : Hid _ := HM.out.drew
        have c0 := (show SqAt _ b bn bb bg N B G from HM.out.get 0 rfl).cells.1
        have HIs : Hid _ := (show SqAt _ b bn bb bg N B G from HM.out.get 0 rfl).all.get 1 rfl
        refine Txt.wp_region_text (fun _ => True) [0, 0, 0, 0, 1, 1, 1, 0, 0, 3, 4, 0] (by kernel_rfl) (by kernel_rfl) trivial ?_
        (repeat (first | (refine Txt.tl_pure (v := ?_) (by rfl) ?_ ?_; rotate_left; (focus (intro _; go_simp; try with_reducible rfl)); simp only [Act.put, List.setIfInBounds_toArray, List.set_cons_zero, List.set_cons_succ]) | (refine Txt.tl_load (v := ?_) (by rfl) (by rfl) (by rfl) (by kernel_rfl) ?_ ?_; rotate_left; (focus assumption); simp only [Act.put, List.setIfInBounds_toArray, List.set_cons_zero, List.set_cons_succ]) | (refine Txt.tl_rowN (n := 32) (ty := 35) (by rfl) (by rfl) (by rfl) (HM.out.range 3 rfl) (by kernel_rfl) (by rw [List.length_map]; exact HU.out) ?_; simp only [Act.put, List.setIfInBounds_toArray, List.set_cons_zero, List.set_cons_succ]) | (refine Txt.tl_skip (by rfl) trivial ?_; simp only [Act.put, List.setIfInBounds_toArray, List.set_cons_zero, List.set_cons_succ])))
        refine Mp.tl_look idKey Try.underlying93 (by rfl) rfl rfl HIs.out zeroN HU.out rfl (look_nd N x) ?_
        simp only [Act.put, List.setIfInBounds_toArray, List.set_cons_zero, List.set_cons_succ]
        refine Txt.tl_pure (v := .string (vN N x)) (by rfl) (ex_field rfl rfl (run_fv N x)) ?_
        simp only [Act.put, List.setIfInBounds_toArray, List.set_cons_zero, List.set_cons_succ]
        refine Txt.tl_pure (v := .agg (pe (vN N x)).toArray) (by rfl) (ex_buildL rfl [(1, .string (vN N x))] rfl (built_P _)) ?_
        simp only [Act.put, List.setIfInBounds_toArray, List.set_cons_zero, List.set_cons_succ]
        clear c0 HIs
        refine Txt.tl_alloc (by rfl) ?_
        refine St.wp_build slP (by decide) rfl rfl rfl ?_
        have HM : Hid _ := HM.out.alloc (.cells (pe (vN N x)).toArray 92) rfl
        refine ⟨⟨Txt.Le.alloc _ _, trivial⟩, ?_⟩
        simp only [Act.put, List.setIfInBounds_toArray, List.set_cons_zero, List.set_cons_succ]
        refine Txt.tl_loud (by rfl) ?_
        refine St.wp_app1z encP slP (by decide) rfl rfl (HM.out.get 2 rfl) rfl (vN N x) rfl (HM.out.get 4 rfl) (by have := HLk.out; omega) ?_
        intro v7 w7 h7 k7 g7
        have HM : Hid _ := HM.out.appR 2 rfl h7 k7 g7
        clear h7 k7 g7
        refine ⟨trivial, ?_⟩
        simp only [Act.put, List.setIfInBounds_toArray, List.set_cons_zero, List.set_cons_succ]
        (repeat (first | (refine Txt.tl_pure (v := ?_) (by rfl) ?_ ?_; rotate_left; (focus (intro _; go_simp; try with_reducible rfl)); simp only [Act.put, List.setIfInBounds_toArray, List.set_cons_zero, List.set_cons_succ]) | (refine Txt.tl_load (v := ?_) (by rfl) (by rfl) (by rfl) (by kernel_rfl) ?_ ?_; rotate_left; (focus assumption); simp only [Act.put, List.setIfInBounds_toArray, List.set_cons_zero, List.set_cons_succ]) | (refine Txt.tl_rowN (n := 32) (ty := 35) (by rfl) (by rfl) (by rfl) (HM.out.range 3 rfl) (by kernel_rfl) (by rw [List.length_map]; exact HU.out) ?_; simp only [Act.put, List.setIfInBounds_toArray, List.set_cons_zero, List.set_cons_succ]) | (refine Txt.tl_skip (by rfl) trivial ?_; simp only [Act.put, List.setIfInBounds_toArray, List.set_cons_zero, List.set_cons_succ])))
        refine Txt.tl_nil ?_
        go_wp2
        go_roundw
        case rel => exact ⟨k + 1, _, by omega, rfl, by go_num, by rw [HE.out]; exact HM.out.take 3⟩
        case measure => simp [intOf]; omega
    · obtain rfl : q = k := by omega
      have HE : Hid (l.take q = l) := List.take_of_length_le (by rw [Hq.out]; exact Nat.le_refl _)
      have HM := HM.out
      rw [HE.out] at HM
      have HM : Hid _ := HM
      go_wp2
      go_ret
      exact ⟨_, rfl, HM.out.sub _ [0, 2] (by decide) rfl⟩
end Sq
end Go.Proofs.Ytgpimeobkacniaa
