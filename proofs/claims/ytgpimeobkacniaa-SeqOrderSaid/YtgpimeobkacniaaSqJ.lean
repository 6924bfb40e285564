/-
  seq.id, seq.read.
-/
import Derived.Test.YtgpimeobkacniaaSqH
import Derived.Test.YtgpimeobkacniaaSqI
import Derived.Test.YtgpimeobkacniaaGId
set_option linter.unusedVariables false
set_option linter.unusedSimpArgs false
namespace Go.Proofs.Ytgpimeobkacniaa
open Go.RowKit
namespace Sq
open Oct Ids Mp Seg
open Mem (M It blk ids rows rd)
open OctRd (be_len)
set_option maxRecDepth 100000 in
set_option maxHeartbeats 1000000 in
theorem id_any (w : World) (b : Nat) (s : ByteArray) (a : Nat) (bad : Int) (x : ByteArray) (a' : Nat) (b' : Int) (h : IsR w b s a bad) (hv : rraw s a bad 32 = (x, a', b')) :
    Calls Try.prog 112 #[.pointer (some ⟨b, 0, none⟩)] w fun e w' => e = .returned (idv (pad x.data.toList)) ∧ IsR w' b s a' b' ∧ Keep (fun k => k = b) w w' := by
  have hx : x.size ≤ 32 := by have := rraw_32 s a bad; rw [hv] at this; exact this
  have Hv : Hid _ := hv
  have Hpl : Hid ((pad x.data.toList).length = 32) := pad_len x.data.toList (by rw [Array.length_toList]; exact hx)
  have hbw := lt_of_block h.blk
  have HM : Hid (M (fun k => k = b) w _ [rd b s a bad, blk w.heap.size (.cells z32 35), blk (w.heap.size + 1) (.cells z32 35)]) := ((M.start1 (x := rd b s a bad) h (fun k hk => by cases hk; exact hbw)).alloc (.cells z32 35) rfl).alloc (.cells z32 35) (by simp)
  clear h hv
  go_enter Try.func112, Try.ntmps112
  go_wp2_with (first | (refine St.wl_alloc tyI rfl rfl (by (try simp only [World.size_alloc]); rfl) ?_; simp only [Act.put, List.setIfInBounds_toArray, List.set_cons_zero, List.set_cons_succ]) | ((fail_if_success go_not_at_region 2); refine Txt.wp_region_text (id := 2) (fun _ => True) [0, 0, 4, 4] (by kernel_rfl) (by kernel_rfl) trivial ?_; have HM : Hid _ := HM.out.drew; (repeat (first | (refine Txt.tl_pure (v := ?_) (by rfl) ?_ ?_; rotate_left; (focus (intro _; go_simp; try with_reducible rfl)); simp only [Act.put, List.setIfInBounds_toArray, List.set_cons_zero, List.set_cons_succ]) | (refine Txt.tl_skip (by rfl) (by first | trivial | exact HS.out) ?_; simp only [Act.put, List.setIfInBounds_toArray, List.set_cons_zero, List.set_cons_succ]) | (refine Txt.tl_load (v := ?_) (by rfl) (by rfl) (by rfl) (by kernel_rfl) ?_ ?_; rotate_left; (focus (first | assumption | (go_simp; done) | (go_simp; with_reducible rfl))); simp only [Act.put, List.setIfInBounds_toArray, List.set_cons_zero, List.set_cons_succ]) | (refine Txt.tl_loadB (v := ?_) (by rfl) (by rfl) (by rfl) (by kernel_rfl) ?_ ?_; rotate_left; (focus assumption); simp only [Act.put, List.setIfInBounds_toArray, List.set_cons_zero, List.set_cons_succ]))); refine Txt.tl_call Try.func110 (by kernel_rfl) (by kernel_rfl) (by rfl) (by rfl) (by rfl) (M.rraw HM.out 0 rfl Hv.out) ?_; rintro e w1 ⟨rfl, h1⟩; have HM : Hid _ := h1; clear h1; refine ⟨_, rfl, trivial, ?_⟩; simp only [Act.put, List.setIfInBounds_toArray, List.set_cons_zero, List.set_cons_succ]; (repeat (first | (refine Txt.tl_pure (v := ?_) (by rfl) ?_ ?_; rotate_left; (focus (intro _; go_simp; try with_reducible rfl)); simp only [Act.put, List.setIfInBounds_toArray, List.set_cons_zero, List.set_cons_succ]) | (refine Txt.tl_skip (by rfl) (by first | trivial | exact HS.out) ?_; simp only [Act.put, List.setIfInBounds_toArray, List.set_cons_zero, List.set_cons_succ]) | (refine Txt.tl_load (v := ?_) (by rfl) (by rfl) (by rfl) (by kernel_rfl) ?_ ?_; rotate_left; (focus (first | assumption | (go_simp; done) | (go_simp; with_reducible rfl))); simp only [Act.put, List.setIfInBounds_toArray, List.set_cons_zero, List.set_cons_succ]) | (refine Txt.tl_loadB (v := ?_) (by rfl) (by rfl) (by rfl) (by kernel_rfl) ?_ ?_; rotate_left; (focus assumption); simp only [Act.put, List.setIfInBounds_toArray, List.set_cons_zero, List.set_cons_succ]))); refine Txt.tl_loud (by rfl) ?_; refine wp_copy rfl rfl rfl hx (HM.out.get 2 rfl) ?_; intro w3 h3 k3; have HM : Hid (M (fun k => k = b) w w3 [rd b s a' b', blk w.heap.size (.cells z32 35), blk (w.heap.size + 1) (.cells ((pad x.data.toList).map bv).toArray 35)]) := HM.out.upd 2 rfl k3 (fun _ h => h) (y := blk (w.heap.size + 1) (.cells ((pad x.data.toList).map bv).toArray 35)) h3 (fun k hk => .inl hk); clear h3 k3; refine ⟨trivial, ?_⟩; simp only [Act.put, List.setIfInBounds_toArray, List.set_cons_zero, List.set_cons_succ]; (repeat (first | (refine Txt.tl_pure (v := ?_) (by rfl) ?_ ?_; rotate_left; (focus (intro _; go_simp; try with_reducible rfl)); simp only [Act.put, List.setIfInBounds_toArray, List.set_cons_zero, List.set_cons_succ]) | (refine Txt.tl_skip (by rfl) (by first | trivial | exact HS.out) ?_; simp only [Act.put, List.setIfInBounds_toArray, List.set_cons_zero, List.set_cons_succ]) | (refine Txt.tl_load (v := ?_) (by rfl) (by rfl) (by rfl) (by kernel_rfl) ?_ ?_; rotate_left; (focus (first | assumption | (go_simp; done) | (go_simp; with_reducible rfl))); simp only [Act.put, List.setIfInBounds_toArray, List.set_cons_zero, List.set_cons_succ]) | (refine Txt.tl_loadB (v := ?_) (by rfl) (by rfl) (by rfl) (by kernel_rfl) ?_ ?_; rotate_left; (focus assumption); simp only [Act.put, List.setIfInBounds_toArray, List.set_cons_zero, List.set_cons_succ]))); refine Txt.tl_nil ?_) | (refine St.wl_load tyI (by rfl) rfl rfl (HM.out.range 2 rfl) (by rw [List.length_map]; exact Hpl.out) ?_; simp only [Act.put, List.setIfInBounds_toArray, List.set_cons_zero, List.set_cons_succ]) | (refine St.wl_store tyI rfl rfl rfl rfl rfl (by rw [List.size_toArray, List.length_map]; exact Hpl.out) (one_bv _) (HM.out.get 1 rfl) (by simp) ?_; have HM : Hid _ := HM.out.setr 1 rfl ((pad x.data.toList).map bv).toArray))
  refine bodyPost_ret (St.res1 tyI rfl _ _ w.heap.size _ (by rw [List.size_toArray, List.length_map]; exact Hpl.out) rfl (HM.out.get 1 rfl)) rfl ?_
  exact ⟨rfl, HM.out.get 0 rfl, HM.out.keep⟩
section
variable {F : Nat → Prop} {w0 w : World} {l : List Mem.It}
theorem id_m (h : M F w0 w l) (i : Nat) {b : Nat} {s : ByteArray} {a : Nat} {bad : Int} (hi : l[i]? = some (rd b s a bad)) {x : ByteArray} {a' : Nat} {b' : Int} (hv : rraw s a bad 32 = (x, a', b')) {r : List UInt8} (hr : pad x.data.toList = r) :
    Calls Try.prog 112 #[.pointer (some ⟨b, 0, none⟩)] w fun e w' => e = .returned (idv r) ∧ M F w0 w' (l.set i (rd b s a' b')) := by
  subst hr
  refine (id_any w b s a bad x a' b' (h.get i hi) hv).mono ?_
  rintro e w' ⟨rfl, h1, k1⟩
  exact ⟨rfl, h.upd i hi k1 (fun _ h => h) (y := rd b s a' b') h1 (fun k hk => .inl hk)⟩
end
theorem tyNm : St.Ty 136 66 dz := ⟨⟨_, Try.underlying136, rfl⟩, by kernel_rfl, by kernel_rfl⟩
theorem slNm : SlT Try.prog 132 136 (.agg dz) 66 88 := SlT.mk' Try.underlying132 (by kernel_rfl) rfl (by omega)
/-- A node read so far. -/
def dn (u : Wd) (hu : u.length = 32) (h : Int) (r : Wd) (hr : r.length = 32) (v : ByteArray) : Dn := ⟨u, hu, ⟨h, r, hr, v⟩⟩
theorem zl : Zi.length = 32 := rfl
theorem built_fill (u : Wd) (hu : u.length = 32) {place : Nat → Option (Nat × Nat)} (hp : place 0 = some (0, 32)) : Instr.fill place dz [(0, idv u)] = some (de (dn u hu 0 Zi zl ByteArray.empty)).toArray := by
  have l32 : (u.map bv).length = 32 := by rw [List.length_map, hu]
  have hz : dz = ((List.replicate 32 (0 : UInt8)).map bv ++ (Value.int .i64 0 :: ((List.replicate 32 (0 : UInt8)).map bv ++ [Value.string ByteArray.empty]))).toArray := rfl
  rw [hz, fill_cons (off := 0) (size := 32) (cs := u.map bv) hp rfl l32 (by decide)]
  rw [List.take_zero, List.nil_append, List.drop_left' (by decide), Instr.fill]
  rfl
theorem built_named (u : Wd) (hu : u.length = 32) : Try.prog.built 136 [(0, idv u)] = some (de (dn u hu 0 Zi zl ByteArray.empty)).toArray := by
  rw [show Try.prog.built 136 [(0, idv u)] = Instr.fill (fun i => #[(0, 32), (32, 34)][i]?) dz [(0, idv u)] from by kernel_rfl]
  exact built_fill u hu rfl
theorem built_Node (u : Wd) (hu : u.length = 32) : Try.prog.built 37 [(0, idv u)] = some (de (dn u hu 0 Zi zl ByteArray.empty)).toArray := by
  rw [show Try.prog.built 37 [(0, idv u)] = Instr.fill (fun i => #[(0, 32), (32, 1), (33, 32), (65, 1)][i]?) dz [(0, idv u)] from by kernel_rfl]
  exact built_fill u hu rfl
section
variable {u r r' : Wd} {hu : u.length = 32} {hr : r.length = 32} {h h' : Int} {v v' : ByteArray}
theorem de_h : (de (dn u hu h r hr v)).toArray.setIfInBounds 32 (.int .i64 h') = (de (dn u hu h' r hr v)).toArray := by
  have l32 : (u.map bv).length = 32 := by rw [List.length_map, hu]
  rw [List.setIfInBounds_toArray]
  unfold de ne dn
  rw [List.set_append_right _ _ (by rw [l32]; exact Nat.le_refl _), l32]
  rfl
theorem de_v : (de (dn u hu h r hr v)).toArray.setIfInBounds 65 (.string v') = (de (dn u hu h r hr v')).toArray := by
  have l32 : (u.map bv).length = 32 := by rw [List.length_map, hu]
  have lr : (r.map bv).length = 32 := by rw [List.length_map, hr]
  rw [List.setIfInBounds_toArray]
  unfold de ne dn
  rw [List.set_append_right _ _ (by rw [l32]; omega), l32, show 65 - 32 = 32 + 1 from rfl, List.set_cons_succ, List.set_append_right _ _ (by rw [lr]; exact Nat.le_refl _), lr]
  rfl
theorem de_mid (hr' : r'.length = 32) : ((de (dn u hu h r hr v)).toArray.toList.take 33 ++ (r'.map bv).toArray.toList ++ (de (dn u hu h r hr v)).toArray.toList.drop (33 + 32)).toArray = (de (dn u hu h r' hr' v)).toArray := by
  have l33 : (u.map bv ++ [Value.int .i64 h]).length = 33 := by rw [List.length_append, List.length_map, hu]; rfl
  have lr : (r.map bv).length = 32 := by rw [List.length_map, hr]
  have e : de (dn u hu h r hr v) = (u.map bv ++ [Value.int .i64 h]) ++ (r.map bv ++ [Value.string v]) := by unfold de ne dn; simp
  have e' : de (dn u hu h r' hr' v) = (u.map bv ++ [Value.int .i64 h]) ++ (r'.map bv ++ [Value.string v]) := by unfold de ne dn; simp
  rw [e, e']
  simp only [List.toList_toArray]
  rw [List.take_left' l33, ← List.drop_drop, List.drop_left' l33, List.drop_left' lr, List.append_assoc]
theorem de_sz66 (d : Dn) : (de d).toArray.size = 66 := by rw [List.size_toArray]; exact de_len d
end
section
variable {ops : Array Oper} {rest : List Oper} {o : Oper} {a : Act} {w : World} {Q : Exit → Act → World → Prop}
theorem run_storeInt {w : World} {p : Addr} {v : Int} {old : Value} (hc : w.cell? p = some old) (hf : w.frozen? p = false) : (Instr.storeAt 3 (.pointer (some p)) (.int .i64 v)).run Try.prog w = .ok () (w.setCell p (.int .i64 v)) := by
  go_simp
theorem run_storeStr {w : World} {p : Addr} {v : ByteArray} {old : Value} (hc : w.cell? p = some old) (hf : w.frozen? p = false) : (Instr.storeAt 9 (.pointer (some p)) (.string v)).run Try.prog w = .ok () (w.setCell p (.string v)) := by
  go_simp
theorem wl_storeInt (hgd : o.guard = none) {x y : Operand} (ho : o.op = .store 3 x y) (hd : o.dst = none) {p : Addr} (hx : a.eval x = .pointer (some p)) {v : Int} (hy : a.eval y = .int .i64 v) {old : Value} (hc : w.cell? p = some old) (hf : w.frozen? p = false)
    (h : wpList Try.prog ops Q rest a (w.setCell p (.int .i64 v))) : wpList Try.prog ops Q (o :: rest) a w :=
  wpList_plain hgd fun K hK => by
    unfold Oper.wp execOp
    simp only [ho, hx, hy, Sem.run_bind, run_storeInt hc hf, Result.andThen_ok, Sem.run_pure]
    rw [Oper.upon_skip, hd]
    exact hK _ _ h
theorem wl_storeStr (hgd : o.guard = none) {x y : Operand} (ho : o.op = .store 9 x y) (hd : o.dst = none) {p : Addr} (hx : a.eval x = .pointer (some p)) {v : ByteArray} (hy : a.eval y = .string v) {old : Value} (hc : w.cell? p = some old) (hf : w.frozen? p = false)
    (h : wpList Try.prog ops Q rest a (w.setCell p (.string v))) : wpList Try.prog ops Q (o :: rest) a w :=
  wpList_plain hgd fun K hK => by
    unfold Oper.wp execOp
    simp only [ho, hx, hy, Sem.run_bind, run_storeStr hc hf, Result.andThen_ok, Sem.run_pure]
    rw [Oper.upon_skip, hd]
    exact hK _ _ h
end
theorem rdL_step {s : ByteArray} {a1 : Nat} {b1 : Int} {k : Nat} {L : List Dn} {a : Nat} {b : Int} {d : Dn} {a' : Nat} {b' : Int} (h : rdL s a1 b1 k = (L, a, b)) (hx : rd1 s a b = (d, a', b')) : rdL s a1 b1 (k + 1) = (L ++ [d], a', b') := by
  show ((rdL s a1 b1 k).1 ++ [(rd1 s (rdL s a1 b1 k).2.1 (rdL s a1 b1 k).2.2).1], (rd1 s (rdL s a1 b1 k).2.1 (rdL s a1 b1 k).2.2).2) = _
  rw [h]
  simp only
  rw [hx]
theorem pad_32 {s : ByteArray} {a : Nat} {b : Int} {x : ByteArray} {a' : Nat} {b' : Int} (h : rraw s a b 32 = (x, a', b')) : (pad x.data.toList).length = 32 := by
  have := rraw_32 s a b
  rw [h] at this
  exact pad_len x.data.toList (by rw [Array.length_toList]; exact this)
/-- One node, in five readings. -/
structure R5 (s : ByteArray) (a : Nat) (b : Int) (u : Wd) (hu : u.length = 32) (n : Nat) (r : Wd) (hr : r.length = 32) (v : ByteArray) (a5 : Nat) (b5 : Int) : Prop where
  ex : ∃ x1 a1 b1 a2 b2 x3 a3 b3 m a4 b4, rraw s a b 32 = (x1, a1, b1) ∧ pad x1.data.toList = u ∧ rnum s a1 b1 4 = (n, a2, b2) ∧ rraw s a2 b2 32 = (x3, a3, b3) ∧ pad x3.data.toList = r ∧ rnum s a3 b3 1 = (m, a4, b4) ∧ rraw s a4 b4 m = (v, a5, b5)
theorem R5.one {s : ByteArray} {a : Nat} {b : Int} {u : Wd} {hu : u.length = 32} {n : Nat} {r : Wd} {hr : r.length = 32} {v : ByteArray} {a5 : Nat} {b5 : Int} (h : R5 s a b u hu n r hr v a5 b5) : rd1 s a b = (dn u hu n r hr v, a5, b5) := by
  obtain ⟨x1, a1, b1, a2, b2, x3, a3, b3, m, a4, b4, h1, h2, h3, h4, h5, h6, h7⟩ := h
  unfold rd1
  subst h2 h5
  simp only [h1, h3, h4, h6, h7, fit_eq hu, fit_eq hr]
  rfl
theorem r5_of (s : ByteArray) (a : Nat) (b : Int) : ∃ u hu n r hr v a5 b5, R5 s a b u hu n r hr v a5 b5 := by
  obtain ⟨x1, a1, b1, h1⟩ : ∃ x a' b', rraw s a b 32 = (x, a', b') := ⟨_, _, _, rfl⟩
  obtain ⟨n2, a2, b2, h2⟩ : ∃ x a' b', rnum s a1 b1 4 = (x, a', b') := ⟨_, _, _, rfl⟩
  obtain ⟨x3, a3, b3, h3⟩ : ∃ x a' b', rraw s a2 b2 32 = (x, a', b') := ⟨_, _, _, rfl⟩
  obtain ⟨n4, a4, b4, h4⟩ : ∃ x a' b', rnum s a3 b3 1 = (x, a', b') := ⟨_, _, _, rfl⟩
  obtain ⟨x5, a5, b5, h5⟩ : ∃ x a' b', rraw s a4 b4 n4 = (x, a', b') := ⟨_, _, _, rfl⟩
  exact ⟨pad x1.data.toList, pad_32 h1, n2, pad x3.data.toList, pad_32 h3, x5, a5, b5, ⟨x1, a1, b1, a2, b2, x3, a3, b3, n4, a4, b4, h1, rfl, h2, h3, rfl, h4, h5⟩⟩
/-- What read comes to. -/
structure SRdPost (w : World) (b : Nat) (s : ByteArray) (e : Ending) (w' : World) : Prop where
  ex : ∃ (L : List Dn) (G : List Wd) (a : Nat) (bad : Int) (v1 v2 : Value), e = .returned (.tuple #[v1, v2]) ∧ RdA s L G a bad ∧ M (fun k => k = b) w w' [rd b s a bad, rows 136 66 de v1 L, ids v2 G]
set_option maxRecDepth 100000 in
set_option maxHeartbeats 16000000 in
theorem sread_any (w : World) (b : Nat) (s : ByteArray) (h : IsR w b s 0 0) (hs : s.size ≤ 30000) :
    Calls Try.prog 85 #[.pointer (some ⟨b, 0, none⟩)] w (SRdPost w b s) := by
  have hbw := lt_of_block h.blk
  have HM : Hid (M (fun k => k = b) w w [rd b s 0 0, rows 136 66 de (.slice none 0 0) [], ids (.slice none 0 0) []]) := ((M.start1 (x := rd b s 0 0) h (fun k hk => by cases hk; exact hbw)).nilR 136 66 de).nilI
  obtain ⟨n, a1, b1, h1⟩ : ∃ x a' b', rnum s 0 0 4 = (x, a', b') := ⟨_, _, _, rfl⟩
  have H1 : Hid (rnum s 0 0 4 = (n, a1, b1)) := h1
  have Hs : Hid (s.size ≤ 30000) := hs
  clear h hbw h1 hs
  go_enter Try.func85, Try.ntmps85
  go_wp2_with (first | (go_at_call 108; refine (M.rnum HM.out 0 rfl H1.out).mono ?_; rintro e w1 ⟨rfl, h1⟩; have HM : Hid (M (fun k => k = b) w w1 [rd b s a1 b1, rows 136 66 de (.slice none 0 0) [], ids (.slice none 0 0) []]) := h1; clear h1))
  go_loopw [2, 5] (fun s2 s5 wr => ∃ (k : Nat) (v : Value) (L : List Dn) (a : Nat) (bad : Int), k ≤ n ∧ s2 = v ∧ s5 = .int .i64 k ∧ M (fun k => k = b) w wr [rd b s a bad, rows 136 66 de v L, ids (.slice none 0 0) []] ∧ rdL s a1 b1 k = (L, a, bad) ∧ (∀ j, j < k → (rdL s a1 b1 j).2.2 = 0)) (fun _ s5 _ => n - (intOf s5).toNat)
  case atStart => exact ⟨0, _, [], a1, b1, Nat.zero_le _, rfl, by go_num, HM.out, rfl, fun j hj => absurd hj (Nat.not_lt_zero _)⟩
  case round =>
    clear HM
    obtain ⟨k, v, L, a, bad, hk, e1, rfl, hM, hR, hg⟩ := hrel
    replace e1 := e1.symm
    subst e1
    have HM : Hid (M (fun k => k = b) w wr [rd b s a bad, rows 136 66 de v L, ids (.slice none 0 0) []]) := hM
    have HR : Hid (rdL s a1 b1 k = (L, a, bad)) := hR
    have HG : Hid (∀ j, j < k → (rdL s a1 b1 j).2.2 = 0) := hg
    have HLl : Hid (L.length = k) := by have := rdL_len s a1 b1 k; rw [hR] at this; exact this
    clear hM hR hg
    by_cases hcc : k < n ∧ bad = 0
    · obtain ⟨hlt, rfl⟩ := hcc
      have HG1 : Hid (∀ j, j < k + 1 → (rdL s a1 b1 j).2.2 = 0) := fun j hj => by
        rcases Nat.lt_or_ge j k with h1 | h1
        · exact HG.out j h1
        · obtain rfl : j = k := by omega
          rw [HR.out]
      have hkb : k ≤ 500 := by
        have hale : a ≤ s.size := (show IsR wr b s a 0 from HM.out.get 0 rfl).le
        rcases Nat.eq_zero_or_pos k with h0 | h0
        · omega
        · have hb1 : b1 = 0 := HG.out 0 h0
          have := rdL_ok s a1 (by
            have h1 := H1.out
            rw [hb1] at h1
            exact (num_ok (k := 4) (m := 4) (by decide) (by decide) h1 (Nat.zero_le _)).2) k (by rw [hb1] at HR; rw [HR.out])
          rw [hb1] at HR
          rw [HR.out] at this
          have h2 := this.2.2
          have h3 := Hs.out
          simp only at h2
          omega
      obtain ⟨u, hu, n2, r, hr, x5, c5, e5, H5⟩ := r5_of s a 0
      have HS : Hid (rdL s a1 b1 (k + 1) = (L ++ [dn u hu n2 r hr x5], c5, e5)) := rdL_step HR.out H5.one
      obtain ⟨x1, c1, e1, c2, e2, x3, c3, e3, m, c4, e4, q1, q1', q2, q3, q3', q4, q5⟩ := H5
      have Q1 : Hid (rraw s a 0 32 = (x1, c1, e1)) := q1
      have Q1' : Hid (pad x1.data.toList = u) := q1'
      have Q2 : Hid (rnum s c1 e1 4 = (n2, c2, e2)) := q2
      have Q3 : Hid (rraw s c2 e2 32 = (x3, c3, e3)) := q3
      have Q3' : Hid (pad x3.data.toList = r) := q3'
      have Q4 : Hid (rnum s c3 e3 1 = (m, c4, e4)) := q4
      have Q5 : Hid (rraw s c4 e4 m = (x5, c5, e5)) := q5
      have HU : Hid (u.length = 32) := hu
      have HRl : Hid (r.length = 32) := hr
      clear q1 q1' q2 q3 q3' q4 q5
      go_wp2_with (first | (go_at_call 81; refine (M.rerr HM.out 0 rfl).mono ?_; rintro e w2 ⟨rfl, h2⟩; replace h2 := h2.symm; subst h2) | (go_at_call 112; first | (refine (id_m HM.out 0 rfl Q1.out Q1'.out).mono ?_; rintro e w3 ⟨rfl, h3⟩; have HM : Hid (M (fun k => k = b) w w3 [rd b s c1 e1, rows 136 66 de v L, ids (.slice none 0 0) []]) := h3; clear h3; obtain ⟨ob, hob⟩ : ∃ ob, w3.heap.size = ob := ⟨_, rfl⟩; have Hob : Hid (w3.heap.size = ob) := hob; clear hob) | (refine (id_m HM.out 0 rfl Q3.out Q3'.out).mono ?_; rintro e w5 ⟨rfl, h5⟩; have HM : Hid _ := h5; clear h5)) | (refine wl_buildL rfl rfl [(0, idv u)] rfl (built_named u HU.out) ?_; simp only [Act.put, List.setIfInBounds_toArray, List.set_cons_zero, List.set_cons_succ]) | ((with_reducible refine at_alloc 136 ?_); refine St.wl_alloc tyNm rfl rfl Hob.out ?_; simp only [Act.put, List.setIfInBounds_toArray, List.set_cons_zero, List.set_cons_succ]) | ((with_reducible refine at_store 136 ?_); refine St.wl_storeN (W := w3) tyNm rfl rfl rfl rfl rfl Hob.out (show _ = Value.agg (de (dn u HU.out 0 Zi zl ByteArray.empty)).toArray from rfl) (de_sz66 _) rfl (encD.all _) ?_; have HM : Hid (M (fun k => k = b) w _ [rd b s c1 e1, rows 136 66 de v L, ids (.slice none 0 0) [], blk ob (.cells (de (dn u HU.out 0 Zi zl ByteArray.empty)).toArray 136)]) := HM.out.alloc (.cells (de (dn u HU.out 0 Zi zl ByteArray.empty)).toArray 136) Hob.out) | (go_at_call 108; first | (refine (M.rnum HM.out 0 rfl Q2.out).mono ?_; rintro e w4 ⟨rfl, h4⟩; have HM : Hid _ := h4; clear h4) | (refine (M.rnum HM.out 0 rfl Q4.out).mono ?_; rintro e w6 ⟨rfl, h6⟩; have HM : Hid _ := h6; clear h6)) | ((with_reducible refine at_store 3 ?_); refine wl_storeInt rfl rfl rfl rfl rfl (rng_h (HM.out.range 3 rfl)) (HM.out.free 3 rfl 32) ?_; have HM := HM.out.setc 3 rfl 32 (.int .i64 n2); rw [de_h] at HM; have HM : Hid _ := HM) | ((with_reducible refine at_store 35 ?_); refine St.wl_storeMid tyI rfl rfl rfl rfl rfl (cs := (r.map bv).toArray) (by rw [List.size_toArray, List.length_map]; exact HRl.out) (one_bv r) (HM.out.get 3 rfl) (by rw [de_sz66]; decide) (de_mid HRl.out) ?_; have HM : Hid _ := HM.out.setr 3 rfl (de (dn u HU.out n2 r HRl.out ByteArray.empty)).toArray) | (go_at_call 110; refine (M.rraw HM.out 0 rfl Q5.out).mono ?_; rintro e w7 ⟨rfl, h7⟩; have HM : Hid _ := h7; clear h7) | ((with_reducible refine at_store 9 ?_); refine wl_storeStr rfl rfl rfl rfl rfl (rng_v (HM.out.range 3 rfl)) (HM.out.free 3 rfl 65) ?_; have HM := HM.out.setc 3 rfl 65 (.string x5); rw [de_v] at HM; have HM : Hid _ := HM) | ((with_reducible refine at_load 136 ?_); refine St.wl_load tyNm rfl rfl rfl (HM.out.range 3 rfl) (de_len _) ?_; simp only [Act.put, List.setIfInBounds_toArray, List.set_cons_zero, List.set_cons_succ]) | (refine St.wl_build slNm (by decide) rfl rfl (de_len _) rfl ?_; have HM : Hid _ := HM.out.alloc (.cells (de (dn u HU.out n2 r HRl.out x5)).toArray 136) rfl; simp only [Act.put, List.setIfInBounds_toArray, List.set_cons_zero, List.set_cons_succ]) | (refine St.wl_app1z encD slNm (by decide) rfl rfl rfl (HM.out.get 1 rfl) rfl (dn u HU.out n2 r HRl.out x5) rfl (HM.out.get 4 rfl) (by have := HLl.out; omega) ?_; intro v8 w8 h8 k8 g8; have HM : Hid _ := HM.out.appR 1 rfl h8 k8 g8; clear h8 k8 g8; simp only [Act.put, List.setIfInBounds_toArray, List.set_cons_zero, List.set_cons_succ]))
      go_roundw
      case rel => exact ⟨k + 1, v8, _, c5, e5, by omega, rfl, by go_num, HM.out.take 3, HS.out, HG1.out⟩
      case measure => simp [intOf]; omega
    · obtain ⟨m, a3, b3, q6⟩ : ∃ x a' b', rnum s a bad 4 = (x, a', b') := ⟨_, _, _, rfl⟩
      have Q6 : Hid (rnum s a bad 4 = (m, a3, b3)) := q6
      clear q6
      by_cases hlt : k < n
      · have hbz : ¬ bad = 0 := fun h => hcc ⟨hlt, h⟩
        have HTl : Hid (Til (rdL s a1 b1) n k) := ⟨hk, HG.out, .inr (by rw [HR.out]; exact hbz)⟩
        clear hcc
        go_wp2_with (first | (go_at_call 81; refine (M.rerr HM.out 0 rfl).mono ?_; rintro e w2 ⟨rfl, h2⟩; replace h2 := h2.symm; subst h2) | (go_at_call 108; refine (M.rnum HM.out 0 rfl Q6.out).mono ?_; rintro e w9 ⟨rfl, h9⟩; have HM : Hid (M (fun k => k = b) w w9 [rd b s a3 b3, rows 136 66 de v L, ids (.slice none 0 0) []]) := h9; clear h9))
        have ha3 : a3 ≤ s.size := (show IsR w9 b s a3 b3 from HM.out.get 0 rfl).le
        go_loopw [3, 7] (fun s3 s7 wr => ∃ (j : Nat) (v2 : Value) (G : List Wd) (a : Nat) (bad : Int), j ≤ m ∧ s3 = v2 ∧ s7 = .int .i64 j ∧ M (fun k => k = b) w wr [rd b s a bad, rows 136 66 de v L, ids v2 G] ∧ rdIds s a3 b3 j = (G, a, bad) ∧ (∀ i, i < j → (rdIds s a3 b3 i).2.2 = 0)) (fun _ s7 _ => m - (intOf s7).toNat)
        case atStart => exact ⟨0, _, [], a3, b3, Nat.zero_le _, rfl, by go_num, HM.out, rfl, fun j hj => absurd hj (Nat.not_lt_zero _)⟩
        case round =>
          clear HM
          obtain ⟨j, v2, G, a4, bad4, hj, e2, rfl, hM, hR2, hg2⟩ := hrel
          replace e2 := e2.symm
          subst e2
          have HM : Hid (M (fun k => k = b) w wr [rd b s a4 bad4, rows 136 66 de v L, ids v2 G]) := hM
          have HR2 : Hid (rdIds s a3 b3 j = (G, a4, bad4)) := hR2
          have HG2 : Hid (∀ i, i < j → (rdIds s a3 b3 i).2.2 = 0) := hg2
          have HGl : Hid (G.length = j) := by have := rdIds_len s a3 b3 j; rw [hR2] at this; exact this
          clear hM hR2 hg2
          by_cases hc2 : j < m ∧ bad4 = 0
          · obtain ⟨hlt2, rfl⟩ := hc2
            have HG3 : Hid (∀ i, i < j + 1 → (rdIds s a3 b3 i).2.2 = 0) := fun i hi => by
              rcases Nat.lt_or_ge i j with h1 | h1
              · exact HG2.out i h1
              · obtain rfl : i = j := by omega
                rw [HR2.out]
            have hjb : j ≤ 950 := by
              have := ids_bound (k := j) ha3 (fun i hi => HG3.out i (by omega))
              have := Hs.out
              omega
            obtain ⟨x, a', b', hx⟩ : ∃ x a' b', rraw s a4 0 32 = (x, a', b') := ⟨_, _, _, rfl⟩
            have HS2 : Hid (rdIds s a3 b3 (j + 1) = (G ++ [pad x.data.toList], a', b')) := rdIds_step HR2.out hx
            have Hx : Hid (rraw s a4 0 32 = (x, a', b')) := hx
            obtain ⟨u, hu⟩ : ∃ u, pad x.data.toList = u := ⟨_, rfl⟩
            have HUe : Hid (pad x.data.toList = u) := hu
            have HU : Hid (u.length = 32) := by show _ = _; rw [← hu]; exact pad_32 hx
            clear hx hu
            go_wp2_with (first | (go_at_call 81; refine (M.rerr HM.out 0 rfl).mono ?_; rintro e w2 ⟨rfl, h2⟩; replace h2 := h2.symm; subst h2) | (go_at_call 112; refine (id_m HM.out 0 rfl Hx.out HUe.out).mono ?_; rintro e w3 ⟨rfl, h3⟩; have HM : Hid _ := h3; clear h3) | (refine Ids.wl_build rfl rfl HU.out rfl ?_; have HM : Hid _ := HM.out.alloc (.cells (u.map bv).toArray 35) rfl; simp only [Act.put, List.setIfInBounds_toArray, List.set_cons_zero, List.set_cons_succ]) | (refine Ids.wl_app1 rfl rfl rfl (HM.out.get 2 rfl) rfl HU.out (HM.out.get 3 rfl) (by have := HGl.out; omega) ?_; intro v8 w8 h8 k8 g8; have HM : Hid _ := HM.out.appI 2 rfl h8 k8 g8; clear h8 k8 g8; simp only [Act.put, List.setIfInBounds_toArray, List.set_cons_zero, List.set_cons_succ]))
            go_roundw
            case rel => exact ⟨j + 1, v8, G ++ [u], a', b', by omega, rfl, by go_num, HM.out.take 3, by rw [HS2.out, HUe.out], HG3.out⟩
            case measure => simp [intOf]; omega
          · by_cases hlt2 : j < m
            · have hbz2 : ¬ bad4 = 0 := fun h => hc2 ⟨hlt2, h⟩
              have HT2 : Hid (Til (rdIds s a3 b3) m j) := ⟨hj, HG2.out, .inr (by rw [HR2.out]; exact hbz2)⟩
              clear hc2
              go_wp2_with (first | (go_at_call 81; refine (M.rerr HM.out 0 rfl).mono ?_; rintro e w2 ⟨rfl, h2⟩; replace h2 := h2.symm; subst h2))
              go_ret2
              exact ⟨L, G, a4, bad4, v, v2, rfl, ⟨_, _, _, _, _, _, _, _, _, _, H1.out, HTl.out, HR.out, Q6.out, HT2.out, HR2.out⟩, HM.out⟩
            · obtain rfl : m = j := by omega
              have HT2 : Hid (Til (rdIds s a3 b3) m m) := ⟨Nat.le_refl _, HG2.out, .inl rfl⟩
              clear hc2 hlt2
              go_wp2
              go_ret2
              exact ⟨L, G, a4, bad4, v, v2, rfl, ⟨_, _, _, _, _, _, _, _, _, _, H1.out, HTl.out, HR.out, Q6.out, HT2.out, HR2.out⟩, HM.out⟩
      · obtain rfl : n = k := by omega
        have HTl : Hid (Til (rdL s a1 b1) n n) := ⟨Nat.le_refl _, HG.out, .inl rfl⟩
        clear hcc hlt
        go_wp2_with (first | (go_at_call 81; refine (M.rerr HM.out 0 rfl).mono ?_; rintro e w2 ⟨rfl, h2⟩; replace h2 := h2.symm; subst h2) | (go_at_call 108; refine (M.rnum HM.out 0 rfl Q6.out).mono ?_; rintro e w9 ⟨rfl, h9⟩; have HM : Hid (M (fun k => k = b) w w9 [rd b s a3 b3, rows 136 66 de v L, ids (.slice none 0 0) []]) := h9; clear h9))
        have ha3 : a3 ≤ s.size := (show IsR w9 b s a3 b3 from HM.out.get 0 rfl).le
        go_loopw [3, 7] (fun s3 s7 wr => ∃ (j : Nat) (v2 : Value) (G : List Wd) (a : Nat) (bad : Int), j ≤ m ∧ s3 = v2 ∧ s7 = .int .i64 j ∧ M (fun k => k = b) w wr [rd b s a bad, rows 136 66 de v L, ids v2 G] ∧ rdIds s a3 b3 j = (G, a, bad) ∧ (∀ i, i < j → (rdIds s a3 b3 i).2.2 = 0)) (fun _ s7 _ => m - (intOf s7).toNat)
        case atStart => exact ⟨0, _, [], a3, b3, Nat.zero_le _, rfl, by go_num, HM.out, rfl, fun j hj => absurd hj (Nat.not_lt_zero _)⟩
        case round =>
          clear HM
          obtain ⟨j, v2, G, a4, bad4, hj, e2, rfl, hM, hR2, hg2⟩ := hrel
          replace e2 := e2.symm
          subst e2
          have HM : Hid (M (fun k => k = b) w wr [rd b s a4 bad4, rows 136 66 de v L, ids v2 G]) := hM
          have HR2 : Hid (rdIds s a3 b3 j = (G, a4, bad4)) := hR2
          have HG2 : Hid (∀ i, i < j → (rdIds s a3 b3 i).2.2 = 0) := hg2
          have HGl : Hid (G.length = j) := by have := rdIds_len s a3 b3 j; rw [hR2] at this; exact this
          clear hM hR2 hg2
          by_cases hc2 : j < m ∧ bad4 = 0
          · obtain ⟨hlt2, rfl⟩ := hc2
            have HG3 : Hid (∀ i, i < j + 1 → (rdIds s a3 b3 i).2.2 = 0) := fun i hi => by
              rcases Nat.lt_or_ge i j with h1 | h1
              · exact HG2.out i h1
              · obtain rfl : i = j := by omega
                rw [HR2.out]
            have hjb : j ≤ 950 := by
              have := ids_bound (k := j) ha3 (fun i hi => HG3.out i (by omega))
              have := Hs.out
              omega
            obtain ⟨x, a', b', hx⟩ : ∃ x a' b', rraw s a4 0 32 = (x, a', b') := ⟨_, _, _, rfl⟩
            have HS2 : Hid (rdIds s a3 b3 (j + 1) = (G ++ [pad x.data.toList], a', b')) := rdIds_step HR2.out hx
            have Hx : Hid (rraw s a4 0 32 = (x, a', b')) := hx
            obtain ⟨u, hu⟩ : ∃ u, pad x.data.toList = u := ⟨_, rfl⟩
            have HUe : Hid (pad x.data.toList = u) := hu
            have HU : Hid (u.length = 32) := by show _ = _; rw [← hu]; exact pad_32 hx
            clear hx hu
            go_wp2_with (first | (go_at_call 81; refine (M.rerr HM.out 0 rfl).mono ?_; rintro e w2 ⟨rfl, h2⟩; replace h2 := h2.symm; subst h2) | (go_at_call 112; refine (id_m HM.out 0 rfl Hx.out HUe.out).mono ?_; rintro e w3 ⟨rfl, h3⟩; have HM : Hid _ := h3; clear h3) | (refine Ids.wl_build rfl rfl HU.out rfl ?_; have HM : Hid _ := HM.out.alloc (.cells (u.map bv).toArray 35) rfl; simp only [Act.put, List.setIfInBounds_toArray, List.set_cons_zero, List.set_cons_succ]) | (refine Ids.wl_app1 rfl rfl rfl (HM.out.get 2 rfl) rfl HU.out (HM.out.get 3 rfl) (by have := HGl.out; omega) ?_; intro v8 w8 h8 k8 g8; have HM : Hid _ := HM.out.appI 2 rfl h8 k8 g8; clear h8 k8 g8; simp only [Act.put, List.setIfInBounds_toArray, List.set_cons_zero, List.set_cons_succ]))
            go_roundw
            case rel => exact ⟨j + 1, v8, G ++ [u], a', b', by omega, rfl, by go_num, HM.out.take 3, by rw [HS2.out, HUe.out], HG3.out⟩
            case measure => simp [intOf]; omega
          · by_cases hlt2 : j < m
            · have hbz2 : ¬ bad4 = 0 := fun h => hc2 ⟨hlt2, h⟩
              have HT2 : Hid (Til (rdIds s a3 b3) m j) := ⟨hj, HG2.out, .inr (by rw [HR2.out]; exact hbz2)⟩
              clear hc2
              go_wp2_with (first | (go_at_call 81; refine (M.rerr HM.out 0 rfl).mono ?_; rintro e w2 ⟨rfl, h2⟩; replace h2 := h2.symm; subst h2))
              go_ret2
              exact ⟨L, G, a4, bad4, v, v2, rfl, ⟨_, _, _, _, _, _, _, _, _, _, H1.out, HTl.out, HR.out, Q6.out, HT2.out, HR2.out⟩, HM.out⟩
            · obtain rfl : m = j := by omega
              have HT2 : Hid (Til (rdIds s a3 b3) m m) := ⟨Nat.le_refl _, HG2.out, .inl rfl⟩
              clear hc2 hlt2
              go_wp2
              go_ret2
              exact ⟨L, G, a4, bad4, v, v2, rfl, ⟨_, _, _, _, _, _, _, _, _, _, H1.out, HTl.out, HR.out, Q6.out, HT2.out, HR2.out⟩, HM.out⟩
end Sq
end Go.Proofs.Ytgpimeobkacniaa
