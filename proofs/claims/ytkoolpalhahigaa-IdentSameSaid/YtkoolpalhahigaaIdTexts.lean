/-
  'petrellaw06.IdentTexts': any id as a text, any text as an id, as the document says. For every input.
-/
import Derived.Test.YtkoolpalhahigaaIdAwk
import Derived.Test.YtkoolpalhahigaaGOp
set_option linter.unusedVariables false
set_option linter.unusedSimpArgs false
namespace Go.Proofs.Ytkoolpalhahigaa
open Go.RowKit Go.ChangeShapes Go.WideShapes Go.ChangeAt
open Go.ChangeMaps (open_string shut_string)
namespace Opn
theorem okWide_array {P : Program} {w : World} {r : Reach} {base : Nat} {t : TypeId} {v : Value} {n : Nat} {e : TypeId} (ht : P.underlying t = some (.array n e)) (h : Value.okWide P w r base t v) : ∃ cs, v = .agg cs := by
  simp only [Value.okWide, ht] at h
  obtain ⟨cs, h1, _⟩ := h
  exact ⟨cs, h1⟩
set_option maxRecDepth 100000 in
theorem open_id {H : Type} {enc : TypeId × Value → H} {W : World} {base : Nat} {v : Value} {d : DataW H} {p : List MemPlace}
    (hval : Value.okWide Try.prog W .any base 26 v) (h : DataW.Trod enc Try.prog W 0 (fun _ => true) true 26 v d p) : ∃ x : List UInt8, v = Ids.idv x ∧ x.length = 32 := by
  obtain ⟨cs, rfl⟩ := okWide_array Try.underlying26 hval
  obtain ⟨fuel, hf⟩ := h
  obtain ⟨x, e, h1, _⟩ := rd_id.op H enc W fuel _ _ hf
  refine ⟨x, ?_, h1⟩
  show Value.agg cs = .agg (x.map Oct.bv).toArray
  rw [← e]
  simp [Value.cells]
theorem rd_idl : Rd Try.prog 22 1 (fun x : Sl (List UInt8) => [x.val]) (SlAt 32 (fun x => x.map Oct.bv) fun _ x => x.length = 32) (fun x => (x.els.map fun _ => 32).sum + 1) :=
  rd_slice Try.underlying22 (by kernel_rfl) (by omega) rd_id
theorem at_of {W : World} {s : Sl (List UInt8)} (h : SlAt 32 (fun x => x.map Oct.bv) (fun _ x => x.length = 32) W s) : Ids.At W s.a s.len s.els := by
  obtain ⟨h1, h2, h3, h4⟩ := h
  refine ⟨h1, fun x hx => ?_, Nat.le_trans h2 h3, ?_⟩
  · rcases h4 with h4 | ⟨b, off, _, _, hel⟩
    · rw [h4] at h1
      rw [List.eq_nil_of_length_eq_zero h1] at hx
      cases hx
    · obtain ⟨i, hi⟩ := List.getElem?_of_mem hx
      exact (hel i x hi).2
  · exact h4.imp id fun ⟨b, off, ha, hb, hel⟩ => ⟨b, off, ha, hb, fun i x hi => (hel i x hi).1⟩
set_option maxRecDepth 100000 in
theorem open_idl {H : Type} {enc : TypeId × Value → H} {W : World} {base : Nat} {v : Value} {d : DataW H} {p : List MemPlace}
    (hval : Value.okWide Try.prog W .any base 22 v) (h : DataW.Trod enc Try.prog W 0 (fun _ => true) true 22 v d p) : ∃ a n c els, v = .slice a n c ∧ Ids.At W a n els := by
  obtain ⟨x, e, h1, _⟩ := open_sl Try.underlying22 rd_idl hval h
  exact ⟨_, _, _, _, e, at_of h1⟩
end Opn
namespace IdTexts
open Oct Ids Mem
/-- What the last region reads. -/
def S5 (b0 b1 b2 b3 b4 : Nat) (a b X : List UInt8) (w : World) : Prop :=
  w.rangeAt b0 0 (a.map bv) ∧ w.rangeAt b1 0 (b.map bv) ∧ w.rangeAt b2 0 (X.map bv) ∧ w.rangeAt b3 0 (X.map bv) ∧ w.rangeAt b4 0 (a.map bv)
abbrev ib (b : Nat) (x : List UInt8) : It := blk b (.cells (x.map bv).toArray 26)
theorem S5.of {F : Nat → Prop} {w0 w : World} {b0 b1 b2 b3 b4 : Nat} {a b X : List UInt8} (h : M F w0 w [ib b0 a, ib b1 b, ib b2 X, ib b3 X, ib b4 a]) : S5 b0 b1 b2 b3 b4 a b X w :=
  ⟨h.range 0 rfl, h.range 1 rfl, h.range 2 rfl, h.range 3 rfl, h.range 4 rfl⟩
set_option maxRecDepth 100000 in
set_option maxHeartbeats 4000000 in
theorem walk (a b : List UInt8) (s : ByteArray) (w : World) (ha : a.length = 32) (hb : b.length = 32) (hs : s.size ≤ maxLen) :
    Calls Try.prog 4 #[idv a, idv b, .string s] w fun e w' => e = .returned (.bool true) ∧ Below w.heap.size w w' := by
  have hz := Hex.parse_err s.data.toList
  have LX : Hid ((Hex.parse s.data.toList).1.length = 32) := Hex.parse_len _
  have hback : (Hex.parse s.data.toList).2 = 0 → (⟨(Hex.txt (Hex.parse s.data.toList).1).toArray⟩ : ByteArray) = s := fun h => by
    rw [Hex.txt_parse h]
  have HP : Hid (∀ w, Calls Try.prog 17 #[.string s] w fun e w' => e = .returned (.tuple #[idv (Hex.parse s.data.toList).1, .int .i64 (Hex.parse s.data.toList).2]) ∧ Keep (fun _ => False) w w') := fun w => parse_any w s hs
  have HX : Hid (∀ w, Calls Try.prog 18 #[.string s] w fun e w' => e = .returned (.tuple #[idv (Hex.parse s.data.toList).1, .int .i64 (Hex.parse s.data.toList).2]) ∧ Keep (fun _ => False) w w') := fun w => xparse_any w s hs
  have hpa := Hex.parse_txt ha
  have HA : Hid (∀ w, Calls Try.prog 17 #[.string ⟨(Hex.txt a).toArray⟩] w fun e w' => e = .returned (.tuple #[idv a, .int .i64 0]) ∧ Keep (fun _ => False) w w') := fun w => by
    have := parse_any w ⟨(Hex.txt a).toArray⟩ (by rw [Byt.arr_size, Hex.txt_len, ha]; unfold maxLen; omega)
    simp only [hpa] at this
    exact this
  generalize (Hex.parse s.data.toList).1 = X at *
  generalize (Hex.parse s.data.toList).2 = E at *
  have HB : Hid (E = 0 → (⟨(Hex.txt X).toArray⟩ : ByteArray) = s) := hback
  have La : Hid (a.length = 32) := ha
  have Lb : Hid (b.length = 32) := hb
  have hgd := guard_id
  have hc1 : ∀ w, Sem.run Try.prog (binOp .eql 26 (idv X) (idv X)) w = .ok (.bool true) w := fun w => by rw [eql_id w X X LX.out LX.out]; simp
  have hc2 : ∀ w, Sem.run Try.prog (binOp .eql 26 (idv a) (idv a)) w = .ok (.bool true) w := fun w => by rw [eql_id w a a ha ha]; simp
  have Ra : Hid ((a.map bv).length = 32) := by show _ = _; rw [List.length_map, ha]
  have Rb : Hid ((b.map bv).length = 32) := by show _ = _; rw [List.length_map, hb]
  have RX : Hid ((X.map bv).length = 32) := by show _ = _; rw [List.length_map, LX.out]
  have HM : Hid (M (fun _ => False) w ((w.alloc (.cells (a.map bv).toArray 26)).alloc (.cells (b.map bv).toArray 26)) [ib w.heap.size a, ib (w.heap.size + 1) b]) := ((M.start _ w).alloc _ rfl).alloc _ (by simp)
  have HC : Hid (∀ w, Calls Try.prog 14 #[idv a, idv b] w fun e w' => e = .returned (.int .i64 (IdL.cmpL a b)) ∧ Keep (fun _ => False) w w') := fun w => (compare_any w a b ha hb).mono fun e w' ⟨h1, h2⟩ => ⟨h1, h2.keep⟩
  clear hback hpa ha hb hs
  rcases hz with rfl | rfl
  all_goals
    go_enter Try.func4, Try.ntmps4
    go_wp2_with (first | (go_at_call_has 17 (Value.string s); refine (HP.out _).mono ?_; rintro e w1 ⟨rfl, k1⟩; have HM : Hid _ := HM.out.calm k1; clear k1) | (go_at_call 18; refine (HX.out _).mono ?_; rintro e w2 ⟨rfl, k1⟩; have HM : Hid _ := HM.out.calm k1; clear k1) | (refine St.wl_load tyIdP (by rfl) rfl rfl (HM.out.range 0 rfl) Ra.out ?_; simp only [Act.put, List.setIfInBounds_toArray, List.set_cons_zero, List.set_cons_succ]) | (go_at_call 19; refine (text_any _ a La.out).mono ?_; rintro e w3 ⟨rfl, k1⟩; have HM : Hid _ := HM.out.calm k1; clear k1) | (go_at_call 17; refine (HA.out _).mono ?_; rintro e w4 ⟨rfl, k1⟩; have HM : Hid _ := HM.out.calm k1; clear k1) | (refine St.wl_alloc tyIdP rfl rfl rfl ?_; simp only [Act.put, List.setIfInBounds_toArray, List.set_cons_zero, List.set_cons_succ]) | (refine St.wl_storeN tyIdP rfl rfl rfl rfl rfl rfl (cs := (X.map bv).toArray) rfl (by simp; exact LX.out) rfl (one_bv X) ?_; have HM : Hid _ := HM.out.alloc (.cells (X.map bv).toArray 26) rfl) | (refine St.wl_storeN tyIdP rfl rfl rfl rfl rfl rfl (cs := (a.map bv).toArray) rfl (by simp; exact La.out) rfl (one_bv a) ?_; have HM : Hid _ := HM.out.alloc (.cells (a.map bv).toArray 26) rfl))
  · have HS : Hid (S5 w.heap.size (w.heap.size + 1) w1.heap.size w2.heap.size w4.heap.size a b X _) := S5.of HM.out.drew
    have HB2 : Hid ((⟨(Hex.txt X).toArray⟩ : ByteArray) = s) := HB.out (by first | trivial | rfl)
    refine Txt.wp_region_text (S5 w.heap.size (w.heap.size + 1) w1.heap.size w2.heap.size w4.heap.size a b X) [1, 1, 4, 2, 2, 4, 0, 0, 1, 4, 2, 4, 0, 0, 0, 1, 1, 0, 0, 0, 0, 0, 0, 0, 0, 1, 1, 0, 0, 0, 0, 0, 0, 0, 0, 0, 0, 1, 4, 0, 0, 0, 0, 0, 4, 0, 0] (by kernel_rfl) (by kernel_rfl) HS.out ?_
    have HM : Hid _ := HM.out.drew
    (repeat (first | (refine Txt.tl_pure (v := ?_) (by rfl) ?_ ?_; rotate_left; (focus (intro _; go_simp; try with_reducible rfl)); simp only [Act.put, List.setIfInBounds_toArray, List.set_cons_zero, List.set_cons_succ]) | (refine Txt.tl_skip (by rfl) HS.out ?_; simp only [Act.put, List.setIfInBounds_toArray, List.set_cons_zero, List.set_cons_succ]) | (refine Txt.tl_rowN (by rfl) (by rfl) (by rfl) (HM.out.range 0 rfl) (by kernel_rfl) Ra.out ?_; simp only [Act.put, List.setIfInBounds_toArray, List.set_cons_zero, List.set_cons_succ]) | (refine Txt.tl_rowN (by rfl) (by rfl) (by rfl) (HM.out.range 1 rfl) (by kernel_rfl) Rb.out ?_; simp only [Act.put, List.setIfInBounds_toArray, List.set_cons_zero, List.set_cons_succ]) | (refine Txt.tl_rowN (by rfl) (by rfl) (by rfl) (HM.out.range 2 rfl) (by kernel_rfl) RX.out ?_; simp only [Act.put, List.setIfInBounds_toArray, List.set_cons_zero, List.set_cons_succ]) | (refine Txt.tl_rowN (by rfl) (by rfl) (by rfl) (HM.out.range 3 rfl) (by kernel_rfl) RX.out ?_; simp only [Act.put, List.setIfInBounds_toArray, List.set_cons_zero, List.set_cons_succ]) | (refine Txt.tl_rowN (by rfl) (by rfl) (by rfl) (HM.out.range 4 rfl) (by kernel_rfl) Ra.out ?_; simp only [Act.put, List.setIfInBounds_toArray, List.set_cons_zero, List.set_cons_succ]) | (refine Txt.tl_rowSN (by rfl) (by rfl) (by rfl) (fun w2 h => h.1) (by kernel_rfl) Ra.out ?_; simp only [Act.put, List.setIfInBounds_toArray, List.set_cons_zero, List.set_cons_succ]) | (refine Txt.tl_rowSN (by rfl) (by rfl) (by rfl) (fun w2 h => h.2.1) (by kernel_rfl) Rb.out ?_; simp only [Act.put, List.setIfInBounds_toArray, List.set_cons_zero, List.set_cons_succ])))
    refine Txt.tl_call Try.func14 (by kernel_rfl) (by kernel_rfl) (by rfl) (by rfl) (by rfl) (HC.out _) ?_
    rintro e w9 ⟨rfl, k1⟩
    have HM : Hid _ := HM.out.calm k1
    have HS : Hid (S5 w.heap.size (w.heap.size + 1) w1.heap.size w2.heap.size w4.heap.size a b X _) := S5.of HM.out
    refine ⟨_, rfl, HS.out, ?_⟩
    simp only [Act.put, List.setIfInBounds_toArray, List.set_cons_zero, List.set_cons_succ]
    (repeat (first | (refine Txt.tl_pure (v := ?_) (by rfl) ?_ ?_; rotate_left; (focus (intro _; go_simp; try with_reducible rfl)); simp only [Act.put, List.setIfInBounds_toArray, List.set_cons_zero, List.set_cons_succ]) | (refine Txt.tl_skip (by rfl) HS.out ?_; simp only [Act.put, List.setIfInBounds_toArray, List.set_cons_zero, List.set_cons_succ]) | (refine Txt.tl_rowN (by rfl) (by rfl) (by rfl) (HM.out.range 0 rfl) (by kernel_rfl) Ra.out ?_; simp only [Act.put, List.setIfInBounds_toArray, List.set_cons_zero, List.set_cons_succ]) | (refine Txt.tl_rowN (by rfl) (by rfl) (by rfl) (HM.out.range 1 rfl) (by kernel_rfl) Rb.out ?_; simp only [Act.put, List.setIfInBounds_toArray, List.set_cons_zero, List.set_cons_succ]) | (refine Txt.tl_rowN (by rfl) (by rfl) (by rfl) (HM.out.range 2 rfl) (by kernel_rfl) RX.out ?_; simp only [Act.put, List.setIfInBounds_toArray, List.set_cons_zero, List.set_cons_succ]) | (refine Txt.tl_rowN (by rfl) (by rfl) (by rfl) (HM.out.range 3 rfl) (by kernel_rfl) RX.out ?_; simp only [Act.put, List.setIfInBounds_toArray, List.set_cons_zero, List.set_cons_succ]) | (refine Txt.tl_rowN (by rfl) (by rfl) (by rfl) (HM.out.range 4 rfl) (by kernel_rfl) Ra.out ?_; simp only [Act.put, List.setIfInBounds_toArray, List.set_cons_zero, List.set_cons_succ]) | (refine Txt.tl_rowSN (by rfl) (by rfl) (by rfl) (fun w2 h => h.1) (by kernel_rfl) Ra.out ?_; simp only [Act.put, List.setIfInBounds_toArray, List.set_cons_zero, List.set_cons_succ]) | (refine Txt.tl_rowSN (by rfl) (by rfl) (by rfl) (fun w2 h => h.2.1) (by kernel_rfl) Rb.out ?_; simp only [Act.put, List.setIfInBounds_toArray, List.set_cons_zero, List.set_cons_succ])))
    refine Txt.tl_call Try.func20 (by kernel_rfl) (by kernel_rfl) (by rfl) (by rfl) (by rfl) (xcompare_any _ a b La.out Lb.out) ?_
    rintro e w9 ⟨rfl, k1⟩
    have HM : Hid _ := HM.out.calm k1
    have HS : Hid (S5 w.heap.size (w.heap.size + 1) w1.heap.size w2.heap.size w4.heap.size a b X _) := S5.of HM.out
    refine ⟨_, rfl, HS.out, ?_⟩
    simp only [Act.put, List.setIfInBounds_toArray, List.set_cons_zero, List.set_cons_succ]
    (repeat (first | (refine Txt.tl_pure (v := ?_) (by rfl) ?_ ?_; rotate_left; (focus (intro _; go_simp; try with_reducible rfl)); simp only [Act.put, List.setIfInBounds_toArray, List.set_cons_zero, List.set_cons_succ]) | (refine Txt.tl_skip (by rfl) HS.out ?_; simp only [Act.put, List.setIfInBounds_toArray, List.set_cons_zero, List.set_cons_succ]) | (refine Txt.tl_rowN (by rfl) (by rfl) (by rfl) (HM.out.range 0 rfl) (by kernel_rfl) Ra.out ?_; simp only [Act.put, List.setIfInBounds_toArray, List.set_cons_zero, List.set_cons_succ]) | (refine Txt.tl_rowN (by rfl) (by rfl) (by rfl) (HM.out.range 1 rfl) (by kernel_rfl) Rb.out ?_; simp only [Act.put, List.setIfInBounds_toArray, List.set_cons_zero, List.set_cons_succ]) | (refine Txt.tl_rowN (by rfl) (by rfl) (by rfl) (HM.out.range 2 rfl) (by kernel_rfl) RX.out ?_; simp only [Act.put, List.setIfInBounds_toArray, List.set_cons_zero, List.set_cons_succ]) | (refine Txt.tl_rowN (by rfl) (by rfl) (by rfl) (HM.out.range 3 rfl) (by kernel_rfl) RX.out ?_; simp only [Act.put, List.setIfInBounds_toArray, List.set_cons_zero, List.set_cons_succ]) | (refine Txt.tl_rowN (by rfl) (by rfl) (by rfl) (HM.out.range 4 rfl) (by kernel_rfl) Ra.out ?_; simp only [Act.put, List.setIfInBounds_toArray, List.set_cons_zero, List.set_cons_succ]) | (refine Txt.tl_rowSN (by rfl) (by rfl) (by rfl) (fun w2 h => h.1) (by kernel_rfl) Ra.out ?_; simp only [Act.put, List.setIfInBounds_toArray, List.set_cons_zero, List.set_cons_succ]) | (refine Txt.tl_rowSN (by rfl) (by rfl) (by rfl) (fun w2 h => h.2.1) (by kernel_rfl) Rb.out ?_; simp only [Act.put, List.setIfInBounds_toArray, List.set_cons_zero, List.set_cons_succ])))
    refine Txt.tl_call Try.func19 (by kernel_rfl) (by kernel_rfl) (by rfl) (by rfl) (by rfl) (text_any _ a La.out) ?_
    rintro e w9 ⟨rfl, k1⟩
    have HM : Hid _ := HM.out.calm k1
    have HS : Hid (S5 w.heap.size (w.heap.size + 1) w1.heap.size w2.heap.size w4.heap.size a b X _) := S5.of HM.out
    refine ⟨_, rfl, HS.out, ?_⟩
    simp only [Act.put, List.setIfInBounds_toArray, List.set_cons_zero, List.set_cons_succ]
    (repeat (first | (refine Txt.tl_pure (v := ?_) (by rfl) ?_ ?_; rotate_left; (focus (intro _; go_simp; try with_reducible rfl)); simp only [Act.put, List.setIfInBounds_toArray, List.set_cons_zero, List.set_cons_succ]) | (refine Txt.tl_skip (by rfl) HS.out ?_; simp only [Act.put, List.setIfInBounds_toArray, List.set_cons_zero, List.set_cons_succ]) | (refine Txt.tl_rowN (by rfl) (by rfl) (by rfl) (HM.out.range 0 rfl) (by kernel_rfl) Ra.out ?_; simp only [Act.put, List.setIfInBounds_toArray, List.set_cons_zero, List.set_cons_succ]) | (refine Txt.tl_rowN (by rfl) (by rfl) (by rfl) (HM.out.range 1 rfl) (by kernel_rfl) Rb.out ?_; simp only [Act.put, List.setIfInBounds_toArray, List.set_cons_zero, List.set_cons_succ]) | (refine Txt.tl_rowN (by rfl) (by rfl) (by rfl) (HM.out.range 2 rfl) (by kernel_rfl) RX.out ?_; simp only [Act.put, List.setIfInBounds_toArray, List.set_cons_zero, List.set_cons_succ]) | (refine Txt.tl_rowN (by rfl) (by rfl) (by rfl) (HM.out.range 3 rfl) (by kernel_rfl) RX.out ?_; simp only [Act.put, List.setIfInBounds_toArray, List.set_cons_zero, List.set_cons_succ]) | (refine Txt.tl_rowN (by rfl) (by rfl) (by rfl) (HM.out.range 4 rfl) (by kernel_rfl) Ra.out ?_; simp only [Act.put, List.setIfInBounds_toArray, List.set_cons_zero, List.set_cons_succ]) | (refine Txt.tl_rowSN (by rfl) (by rfl) (by rfl) (fun w2 h => h.1) (by kernel_rfl) Ra.out ?_; simp only [Act.put, List.setIfInBounds_toArray, List.set_cons_zero, List.set_cons_succ]) | (refine Txt.tl_rowSN (by rfl) (by rfl) (by rfl) (fun w2 h => h.2.1) (by kernel_rfl) Rb.out ?_; simp only [Act.put, List.setIfInBounds_toArray, List.set_cons_zero, List.set_cons_succ])))
    refine Txt.tl_call Try.func21 (by kernel_rfl) (by kernel_rfl) (by rfl) (by rfl) (by rfl) (xtext_any _ a La.out) ?_
    rintro e w9 ⟨rfl, k1⟩
    have HM : Hid _ := HM.out.calm k1
    have HS : Hid (S5 w.heap.size (w.heap.size + 1) w1.heap.size w2.heap.size w4.heap.size a b X _) := S5.of HM.out
    refine ⟨_, rfl, HS.out, ?_⟩
    simp only [Act.put, List.setIfInBounds_toArray, List.set_cons_zero, List.set_cons_succ]
    (repeat (first | (refine Txt.tl_pure (v := ?_) (by rfl) ?_ ?_; rotate_left; (focus (intro _; go_simp; try with_reducible rfl)); simp only [Act.put, List.setIfInBounds_toArray, List.set_cons_zero, List.set_cons_succ]) | (refine Txt.tl_skip (by rfl) HS.out ?_; simp only [Act.put, List.setIfInBounds_toArray, List.set_cons_zero, List.set_cons_succ]) | (refine Txt.tl_rowN (by rfl) (by rfl) (by rfl) (HM.out.range 0 rfl) (by kernel_rfl) Ra.out ?_; simp only [Act.put, List.setIfInBounds_toArray, List.set_cons_zero, List.set_cons_succ]) | (refine Txt.tl_rowN (by rfl) (by rfl) (by rfl) (HM.out.range 1 rfl) (by kernel_rfl) Rb.out ?_; simp only [Act.put, List.setIfInBounds_toArray, List.set_cons_zero, List.set_cons_succ]) | (refine Txt.tl_rowN (by rfl) (by rfl) (by rfl) (HM.out.range 2 rfl) (by kernel_rfl) RX.out ?_; simp only [Act.put, List.setIfInBounds_toArray, List.set_cons_zero, List.set_cons_succ]) | (refine Txt.tl_rowN (by rfl) (by rfl) (by rfl) (HM.out.range 3 rfl) (by kernel_rfl) RX.out ?_; simp only [Act.put, List.setIfInBounds_toArray, List.set_cons_zero, List.set_cons_succ]) | (refine Txt.tl_rowN (by rfl) (by rfl) (by rfl) (HM.out.range 4 rfl) (by kernel_rfl) Ra.out ?_; simp only [Act.put, List.setIfInBounds_toArray, List.set_cons_zero, List.set_cons_succ]) | (refine Txt.tl_rowSN (by rfl) (by rfl) (by rfl) (fun w2 h => h.1) (by kernel_rfl) Ra.out ?_; simp only [Act.put, List.setIfInBounds_toArray, List.set_cons_zero, List.set_cons_succ]) | (refine Txt.tl_rowSN (by rfl) (by rfl) (by rfl) (fun w2 h => h.2.1) (by kernel_rfl) Rb.out ?_; simp only [Act.put, List.setIfInBounds_toArray, List.set_cons_zero, List.set_cons_succ])))
    have ht : ∀ w, Calls Try.prog 19 #[idv X] w fun e w' => e = .returned (.string s) ∧ Keep (fun _ => False) w w' := fun w => by have := text_any w X LX.out; rw [HB2.out] at this; exact this
    refine Txt.tl_call Try.func19 (by kernel_rfl) (by kernel_rfl) (by rfl) (by rfl) (by rfl) (ht _) ?_
    rintro e w9 ⟨rfl, k1⟩
    have HM : Hid _ := HM.out.calm k1
    have HS : Hid (S5 w.heap.size (w.heap.size + 1) w1.heap.size w2.heap.size w4.heap.size a b X _) := S5.of HM.out
    refine ⟨_, rfl, HS.out, ?_⟩
    simp only [Act.put, List.setIfInBounds_toArray, List.set_cons_zero, List.set_cons_succ]
    (repeat (first | (refine Txt.tl_pure (v := ?_) (by rfl) ?_ ?_; rotate_left; (focus (intro _; go_simp; try with_reducible rfl)); simp only [Act.put, List.setIfInBounds_toArray, List.set_cons_zero, List.set_cons_succ]) | (refine Txt.tl_skip (by rfl) HS.out ?_; simp only [Act.put, List.setIfInBounds_toArray, List.set_cons_zero, List.set_cons_succ]) | (refine Txt.tl_rowN (by rfl) (by rfl) (by rfl) (HM.out.range 0 rfl) (by kernel_rfl) Ra.out ?_; simp only [Act.put, List.setIfInBounds_toArray, List.set_cons_zero, List.set_cons_succ]) | (refine Txt.tl_rowN (by rfl) (by rfl) (by rfl) (HM.out.range 1 rfl) (by kernel_rfl) Rb.out ?_; simp only [Act.put, List.setIfInBounds_toArray, List.set_cons_zero, List.set_cons_succ]) | (refine Txt.tl_rowN (by rfl) (by rfl) (by rfl) (HM.out.range 2 rfl) (by kernel_rfl) RX.out ?_; simp only [Act.put, List.setIfInBounds_toArray, List.set_cons_zero, List.set_cons_succ]) | (refine Txt.tl_rowN (by rfl) (by rfl) (by rfl) (HM.out.range 3 rfl) (by kernel_rfl) RX.out ?_; simp only [Act.put, List.setIfInBounds_toArray, List.set_cons_zero, List.set_cons_succ]) | (refine Txt.tl_rowN (by rfl) (by rfl) (by rfl) (HM.out.range 4 rfl) (by kernel_rfl) Ra.out ?_; simp only [Act.put, List.setIfInBounds_toArray, List.set_cons_zero, List.set_cons_succ]) | (refine Txt.tl_rowSN (by rfl) (by rfl) (by rfl) (fun w2 h => h.1) (by kernel_rfl) Ra.out ?_; simp only [Act.put, List.setIfInBounds_toArray, List.set_cons_zero, List.set_cons_succ]) | (refine Txt.tl_rowSN (by rfl) (by rfl) (by rfl) (fun w2 h => h.2.1) (by kernel_rfl) Rb.out ?_; simp only [Act.put, List.setIfInBounds_toArray, List.set_cons_zero, List.set_cons_succ])))
    refine Txt.tl_call Try.func12 (by kernel_rfl) (by kernel_rfl) (by rfl) (by rfl) (by rfl) (awake_true _) ?_
    rintro e w9 ⟨rfl, k1⟩
    have HM : Hid _ := HM.out.calm k1
    have HS : Hid (S5 w.heap.size (w.heap.size + 1) w1.heap.size w2.heap.size w4.heap.size a b X _) := S5.of HM.out
    refine ⟨_, rfl, HS.out, ?_⟩
    simp only [Act.put, List.setIfInBounds_toArray, List.set_cons_zero, List.set_cons_succ]
    (repeat (first | (refine Txt.tl_pure (v := ?_) (by rfl) ?_ ?_; rotate_left; (focus (intro _; go_simp; try with_reducible rfl)); simp only [Act.put, List.setIfInBounds_toArray, List.set_cons_zero, List.set_cons_succ]) | (refine Txt.tl_skip (by rfl) HS.out ?_; simp only [Act.put, List.setIfInBounds_toArray, List.set_cons_zero, List.set_cons_succ]) | (refine Txt.tl_rowN (by rfl) (by rfl) (by rfl) (HM.out.range 0 rfl) (by kernel_rfl) Ra.out ?_; simp only [Act.put, List.setIfInBounds_toArray, List.set_cons_zero, List.set_cons_succ]) | (refine Txt.tl_rowN (by rfl) (by rfl) (by rfl) (HM.out.range 1 rfl) (by kernel_rfl) Rb.out ?_; simp only [Act.put, List.setIfInBounds_toArray, List.set_cons_zero, List.set_cons_succ]) | (refine Txt.tl_rowN (by rfl) (by rfl) (by rfl) (HM.out.range 2 rfl) (by kernel_rfl) RX.out ?_; simp only [Act.put, List.setIfInBounds_toArray, List.set_cons_zero, List.set_cons_succ]) | (refine Txt.tl_rowN (by rfl) (by rfl) (by rfl) (HM.out.range 3 rfl) (by kernel_rfl) RX.out ?_; simp only [Act.put, List.setIfInBounds_toArray, List.set_cons_zero, List.set_cons_succ]) | (refine Txt.tl_rowN (by rfl) (by rfl) (by rfl) (HM.out.range 4 rfl) (by kernel_rfl) Ra.out ?_; simp only [Act.put, List.setIfInBounds_toArray, List.set_cons_zero, List.set_cons_succ]) | (refine Txt.tl_rowSN (by rfl) (by rfl) (by rfl) (fun w2 h => h.1) (by kernel_rfl) Ra.out ?_; simp only [Act.put, List.setIfInBounds_toArray, List.set_cons_zero, List.set_cons_succ]) | (refine Txt.tl_rowSN (by rfl) (by rfl) (by rfl) (fun w2 h => h.2.1) (by kernel_rfl) Rb.out ?_; simp only [Act.put, List.setIfInBounds_toArray, List.set_cons_zero, List.set_cons_succ])))
    refine Txt.tl_nil ?_
    go_wp2
    go_ret
    exact ⟨rfl, Keep.below HM.out.keep (Nat.le_refl _) (fun _ h => h.elim)⟩
  · have HS : Hid (S5 w.heap.size (w.heap.size + 1) w1.heap.size w2.heap.size w4.heap.size a b X _) := S5.of HM.out.drew
    refine Txt.wp_region_text (S5 w.heap.size (w.heap.size + 1) w1.heap.size w2.heap.size w4.heap.size a b X) [1, 1, 4, 2, 2, 4, 0, 0, 1, 4, 2, 4, 0, 0, 0, 1, 1, 0, 0, 0, 0, 0, 0, 0, 0, 1, 1, 0, 0, 0, 0, 0, 0, 0, 0, 0, 0, 1, 4, 0, 0, 0, 0, 0, 4, 0, 0] (by kernel_rfl) (by kernel_rfl) HS.out ?_
    have HM : Hid _ := HM.out.drew
    (repeat (first | (refine Txt.tl_pure (v := ?_) (by rfl) ?_ ?_; rotate_left; (focus (intro _; go_simp; try with_reducible rfl)); simp only [Act.put, List.setIfInBounds_toArray, List.set_cons_zero, List.set_cons_succ]) | (refine Txt.tl_skip (by rfl) HS.out ?_; simp only [Act.put, List.setIfInBounds_toArray, List.set_cons_zero, List.set_cons_succ]) | (refine Txt.tl_rowN (by rfl) (by rfl) (by rfl) (HM.out.range 0 rfl) (by kernel_rfl) Ra.out ?_; simp only [Act.put, List.setIfInBounds_toArray, List.set_cons_zero, List.set_cons_succ]) | (refine Txt.tl_rowN (by rfl) (by rfl) (by rfl) (HM.out.range 1 rfl) (by kernel_rfl) Rb.out ?_; simp only [Act.put, List.setIfInBounds_toArray, List.set_cons_zero, List.set_cons_succ]) | (refine Txt.tl_rowN (by rfl) (by rfl) (by rfl) (HM.out.range 2 rfl) (by kernel_rfl) RX.out ?_; simp only [Act.put, List.setIfInBounds_toArray, List.set_cons_zero, List.set_cons_succ]) | (refine Txt.tl_rowN (by rfl) (by rfl) (by rfl) (HM.out.range 3 rfl) (by kernel_rfl) RX.out ?_; simp only [Act.put, List.setIfInBounds_toArray, List.set_cons_zero, List.set_cons_succ]) | (refine Txt.tl_rowN (by rfl) (by rfl) (by rfl) (HM.out.range 4 rfl) (by kernel_rfl) Ra.out ?_; simp only [Act.put, List.setIfInBounds_toArray, List.set_cons_zero, List.set_cons_succ]) | (refine Txt.tl_rowSN (by rfl) (by rfl) (by rfl) (fun w2 h => h.1) (by kernel_rfl) Ra.out ?_; simp only [Act.put, List.setIfInBounds_toArray, List.set_cons_zero, List.set_cons_succ]) | (refine Txt.tl_rowSN (by rfl) (by rfl) (by rfl) (fun w2 h => h.2.1) (by kernel_rfl) Rb.out ?_; simp only [Act.put, List.setIfInBounds_toArray, List.set_cons_zero, List.set_cons_succ])))
    refine Txt.tl_call Try.func14 (by kernel_rfl) (by kernel_rfl) (by rfl) (by rfl) (by rfl) (HC.out _) ?_
    rintro e w9 ⟨rfl, k1⟩
    have HM : Hid _ := HM.out.calm k1
    have HS : Hid (S5 w.heap.size (w.heap.size + 1) w1.heap.size w2.heap.size w4.heap.size a b X _) := S5.of HM.out
    refine ⟨_, rfl, HS.out, ?_⟩
    simp only [Act.put, List.setIfInBounds_toArray, List.set_cons_zero, List.set_cons_succ]
    (repeat (first | (refine Txt.tl_pure (v := ?_) (by rfl) ?_ ?_; rotate_left; (focus (intro _; go_simp; try with_reducible rfl)); simp only [Act.put, List.setIfInBounds_toArray, List.set_cons_zero, List.set_cons_succ]) | (refine Txt.tl_skip (by rfl) HS.out ?_; simp only [Act.put, List.setIfInBounds_toArray, List.set_cons_zero, List.set_cons_succ]) | (refine Txt.tl_rowN (by rfl) (by rfl) (by rfl) (HM.out.range 0 rfl) (by kernel_rfl) Ra.out ?_; simp only [Act.put, List.setIfInBounds_toArray, List.set_cons_zero, List.set_cons_succ]) | (refine Txt.tl_rowN (by rfl) (by rfl) (by rfl) (HM.out.range 1 rfl) (by kernel_rfl) Rb.out ?_; simp only [Act.put, List.setIfInBounds_toArray, List.set_cons_zero, List.set_cons_succ]) | (refine Txt.tl_rowN (by rfl) (by rfl) (by rfl) (HM.out.range 2 rfl) (by kernel_rfl) RX.out ?_; simp only [Act.put, List.setIfInBounds_toArray, List.set_cons_zero, List.set_cons_succ]) | (refine Txt.tl_rowN (by rfl) (by rfl) (by rfl) (HM.out.range 3 rfl) (by kernel_rfl) RX.out ?_; simp only [Act.put, List.setIfInBounds_toArray, List.set_cons_zero, List.set_cons_succ]) | (refine Txt.tl_rowN (by rfl) (by rfl) (by rfl) (HM.out.range 4 rfl) (by kernel_rfl) Ra.out ?_; simp only [Act.put, List.setIfInBounds_toArray, List.set_cons_zero, List.set_cons_succ]) | (refine Txt.tl_rowSN (by rfl) (by rfl) (by rfl) (fun w2 h => h.1) (by kernel_rfl) Ra.out ?_; simp only [Act.put, List.setIfInBounds_toArray, List.set_cons_zero, List.set_cons_succ]) | (refine Txt.tl_rowSN (by rfl) (by rfl) (by rfl) (fun w2 h => h.2.1) (by kernel_rfl) Rb.out ?_; simp only [Act.put, List.setIfInBounds_toArray, List.set_cons_zero, List.set_cons_succ])))
    refine Txt.tl_call Try.func20 (by kernel_rfl) (by kernel_rfl) (by rfl) (by rfl) (by rfl) (xcompare_any _ a b La.out Lb.out) ?_
    rintro e w9 ⟨rfl, k1⟩
    have HM : Hid _ := HM.out.calm k1
    have HS : Hid (S5 w.heap.size (w.heap.size + 1) w1.heap.size w2.heap.size w4.heap.size a b X _) := S5.of HM.out
    refine ⟨_, rfl, HS.out, ?_⟩
    simp only [Act.put, List.setIfInBounds_toArray, List.set_cons_zero, List.set_cons_succ]
    (repeat (first | (refine Txt.tl_pure (v := ?_) (by rfl) ?_ ?_; rotate_left; (focus (intro _; go_simp; try with_reducible rfl)); simp only [Act.put, List.setIfInBounds_toArray, List.set_cons_zero, List.set_cons_succ]) | (refine Txt.tl_skip (by rfl) HS.out ?_; simp only [Act.put, List.setIfInBounds_toArray, List.set_cons_zero, List.set_cons_succ]) | (refine Txt.tl_rowN (by rfl) (by rfl) (by rfl) (HM.out.range 0 rfl) (by kernel_rfl) Ra.out ?_; simp only [Act.put, List.setIfInBounds_toArray, List.set_cons_zero, List.set_cons_succ]) | (refine Txt.tl_rowN (by rfl) (by rfl) (by rfl) (HM.out.range 1 rfl) (by kernel_rfl) Rb.out ?_; simp only [Act.put, List.setIfInBounds_toArray, List.set_cons_zero, List.set_cons_succ]) | (refine Txt.tl_rowN (by rfl) (by rfl) (by rfl) (HM.out.range 2 rfl) (by kernel_rfl) RX.out ?_; simp only [Act.put, List.setIfInBounds_toArray, List.set_cons_zero, List.set_cons_succ]) | (refine Txt.tl_rowN (by rfl) (by rfl) (by rfl) (HM.out.range 3 rfl) (by kernel_rfl) RX.out ?_; simp only [Act.put, List.setIfInBounds_toArray, List.set_cons_zero, List.set_cons_succ]) | (refine Txt.tl_rowN (by rfl) (by rfl) (by rfl) (HM.out.range 4 rfl) (by kernel_rfl) Ra.out ?_; simp only [Act.put, List.setIfInBounds_toArray, List.set_cons_zero, List.set_cons_succ]) | (refine Txt.tl_rowSN (by rfl) (by rfl) (by rfl) (fun w2 h => h.1) (by kernel_rfl) Ra.out ?_; simp only [Act.put, List.setIfInBounds_toArray, List.set_cons_zero, List.set_cons_succ]) | (refine Txt.tl_rowSN (by rfl) (by rfl) (by rfl) (fun w2 h => h.2.1) (by kernel_rfl) Rb.out ?_; simp only [Act.put, List.setIfInBounds_toArray, List.set_cons_zero, List.set_cons_succ])))
    refine Txt.tl_call Try.func19 (by kernel_rfl) (by kernel_rfl) (by rfl) (by rfl) (by rfl) (text_any _ a La.out) ?_
    rintro e w9 ⟨rfl, k1⟩
    have HM : Hid _ := HM.out.calm k1
    have HS : Hid (S5 w.heap.size (w.heap.size + 1) w1.heap.size w2.heap.size w4.heap.size a b X _) := S5.of HM.out
    refine ⟨_, rfl, HS.out, ?_⟩
    simp only [Act.put, List.setIfInBounds_toArray, List.set_cons_zero, List.set_cons_succ]
    (repeat (first | (refine Txt.tl_pure (v := ?_) (by rfl) ?_ ?_; rotate_left; (focus (intro _; go_simp; try with_reducible rfl)); simp only [Act.put, List.setIfInBounds_toArray, List.set_cons_zero, List.set_cons_succ]) | (refine Txt.tl_skip (by rfl) HS.out ?_; simp only [Act.put, List.setIfInBounds_toArray, List.set_cons_zero, List.set_cons_succ]) | (refine Txt.tl_rowN (by rfl) (by rfl) (by rfl) (HM.out.range 0 rfl) (by kernel_rfl) Ra.out ?_; simp only [Act.put, List.setIfInBounds_toArray, List.set_cons_zero, List.set_cons_succ]) | (refine Txt.tl_rowN (by rfl) (by rfl) (by rfl) (HM.out.range 1 rfl) (by kernel_rfl) Rb.out ?_; simp only [Act.put, List.setIfInBounds_toArray, List.set_cons_zero, List.set_cons_succ]) | (refine Txt.tl_rowN (by rfl) (by rfl) (by rfl) (HM.out.range 2 rfl) (by kernel_rfl) RX.out ?_; simp only [Act.put, List.setIfInBounds_toArray, List.set_cons_zero, List.set_cons_succ]) | (refine Txt.tl_rowN (by rfl) (by rfl) (by rfl) (HM.out.range 3 rfl) (by kernel_rfl) RX.out ?_; simp only [Act.put, List.setIfInBounds_toArray, List.set_cons_zero, List.set_cons_succ]) | (refine Txt.tl_rowN (by rfl) (by rfl) (by rfl) (HM.out.range 4 rfl) (by kernel_rfl) Ra.out ?_; simp only [Act.put, List.setIfInBounds_toArray, List.set_cons_zero, List.set_cons_succ]) | (refine Txt.tl_rowSN (by rfl) (by rfl) (by rfl) (fun w2 h => h.1) (by kernel_rfl) Ra.out ?_; simp only [Act.put, List.setIfInBounds_toArray, List.set_cons_zero, List.set_cons_succ]) | (refine Txt.tl_rowSN (by rfl) (by rfl) (by rfl) (fun w2 h => h.2.1) (by kernel_rfl) Rb.out ?_; simp only [Act.put, List.setIfInBounds_toArray, List.set_cons_zero, List.set_cons_succ])))
    refine Txt.tl_call Try.func21 (by kernel_rfl) (by kernel_rfl) (by rfl) (by rfl) (by rfl) (xtext_any _ a La.out) ?_
    rintro e w9 ⟨rfl, k1⟩
    have HM : Hid _ := HM.out.calm k1
    have HS : Hid (S5 w.heap.size (w.heap.size + 1) w1.heap.size w2.heap.size w4.heap.size a b X _) := S5.of HM.out
    refine ⟨_, rfl, HS.out, ?_⟩
    simp only [Act.put, List.setIfInBounds_toArray, List.set_cons_zero, List.set_cons_succ]
    (repeat (first | (refine Txt.tl_pure (v := ?_) (by rfl) ?_ ?_; rotate_left; (focus (intro _; go_simp; try with_reducible rfl)); simp only [Act.put, List.setIfInBounds_toArray, List.set_cons_zero, List.set_cons_succ]) | (refine Txt.tl_skip (by rfl) HS.out ?_; simp only [Act.put, List.setIfInBounds_toArray, List.set_cons_zero, List.set_cons_succ]) | (refine Txt.tl_rowN (by rfl) (by rfl) (by rfl) (HM.out.range 0 rfl) (by kernel_rfl) Ra.out ?_; simp only [Act.put, List.setIfInBounds_toArray, List.set_cons_zero, List.set_cons_succ]) | (refine Txt.tl_rowN (by rfl) (by rfl) (by rfl) (HM.out.range 1 rfl) (by kernel_rfl) Rb.out ?_; simp only [Act.put, List.setIfInBounds_toArray, List.set_cons_zero, List.set_cons_succ]) | (refine Txt.tl_rowN (by rfl) (by rfl) (by rfl) (HM.out.range 2 rfl) (by kernel_rfl) RX.out ?_; simp only [Act.put, List.setIfInBounds_toArray, List.set_cons_zero, List.set_cons_succ]) | (refine Txt.tl_rowN (by rfl) (by rfl) (by rfl) (HM.out.range 3 rfl) (by kernel_rfl) RX.out ?_; simp only [Act.put, List.setIfInBounds_toArray, List.set_cons_zero, List.set_cons_succ]) | (refine Txt.tl_rowN (by rfl) (by rfl) (by rfl) (HM.out.range 4 rfl) (by kernel_rfl) Ra.out ?_; simp only [Act.put, List.setIfInBounds_toArray, List.set_cons_zero, List.set_cons_succ]) | (refine Txt.tl_rowSN (by rfl) (by rfl) (by rfl) (fun w2 h => h.1) (by kernel_rfl) Ra.out ?_; simp only [Act.put, List.setIfInBounds_toArray, List.set_cons_zero, List.set_cons_succ]) | (refine Txt.tl_rowSN (by rfl) (by rfl) (by rfl) (fun w2 h => h.2.1) (by kernel_rfl) Rb.out ?_; simp only [Act.put, List.setIfInBounds_toArray, List.set_cons_zero, List.set_cons_succ])))
    refine Txt.tl_call Try.func12 (by kernel_rfl) (by kernel_rfl) (by rfl) (by rfl) (by rfl) (awake_true _) ?_
    rintro e w9 ⟨rfl, k1⟩
    have HM : Hid _ := HM.out.calm k1
    have HS : Hid (S5 w.heap.size (w.heap.size + 1) w1.heap.size w2.heap.size w4.heap.size a b X _) := S5.of HM.out
    refine ⟨_, rfl, HS.out, ?_⟩
    simp only [Act.put, List.setIfInBounds_toArray, List.set_cons_zero, List.set_cons_succ]
    (repeat (first | (refine Txt.tl_pure (v := ?_) (by rfl) ?_ ?_; rotate_left; (focus (intro _; go_simp; try with_reducible rfl)); simp only [Act.put, List.setIfInBounds_toArray, List.set_cons_zero, List.set_cons_succ]) | (refine Txt.tl_skip (by rfl) HS.out ?_; simp only [Act.put, List.setIfInBounds_toArray, List.set_cons_zero, List.set_cons_succ]) | (refine Txt.tl_rowN (by rfl) (by rfl) (by rfl) (HM.out.range 0 rfl) (by kernel_rfl) Ra.out ?_; simp only [Act.put, List.setIfInBounds_toArray, List.set_cons_zero, List.set_cons_succ]) | (refine Txt.tl_rowN (by rfl) (by rfl) (by rfl) (HM.out.range 1 rfl) (by kernel_rfl) Rb.out ?_; simp only [Act.put, List.setIfInBounds_toArray, List.set_cons_zero, List.set_cons_succ]) | (refine Txt.tl_rowN (by rfl) (by rfl) (by rfl) (HM.out.range 2 rfl) (by kernel_rfl) RX.out ?_; simp only [Act.put, List.setIfInBounds_toArray, List.set_cons_zero, List.set_cons_succ]) | (refine Txt.tl_rowN (by rfl) (by rfl) (by rfl) (HM.out.range 3 rfl) (by kernel_rfl) RX.out ?_; simp only [Act.put, List.setIfInBounds_toArray, List.set_cons_zero, List.set_cons_succ]) | (refine Txt.tl_rowN (by rfl) (by rfl) (by rfl) (HM.out.range 4 rfl) (by kernel_rfl) Ra.out ?_; simp only [Act.put, List.setIfInBounds_toArray, List.set_cons_zero, List.set_cons_succ]) | (refine Txt.tl_rowSN (by rfl) (by rfl) (by rfl) (fun w2 h => h.1) (by kernel_rfl) Ra.out ?_; simp only [Act.put, List.setIfInBounds_toArray, List.set_cons_zero, List.set_cons_succ]) | (refine Txt.tl_rowSN (by rfl) (by rfl) (by rfl) (fun w2 h => h.2.1) (by kernel_rfl) Rb.out ?_; simp only [Act.put, List.setIfInBounds_toArray, List.set_cons_zero, List.set_cons_succ])))
    refine Txt.tl_nil ?_
    go_wp2
    go_ret
    exact ⟨rfl, Keep.below HM.out.keep (Nat.le_refl _) (fun _ h => h.elim)⟩
set_option maxRecDepth 100000 in
theorem own : ownKnob Try.prog.godebug = none := by kernel_rfl
set_option maxRecDepth 100000 in
theorem laidOut : laidOutB Try.prog = true := by kernel_rfl
set_option maxRecDepth 100000 in
theorem contract (H : Type) (enc : TypeId × Value → H) (W : World) (base : Nat) (args : Array Value) (ds gs : List (DataW H)) (before : List MemPlace)
    (hval : ∀ (j : Nat) t v, Try.f4.params[j]? = some t → args[j]? = some v → Value.okWide Try.prog W .any base t v)
    (hW : DataW.Whole enc Try.prog Try.f4.params.toList Rows.identTextsSpec.vars false W args.toList ds gs before) :
    Calls Try.prog 4 args W fun e W' => ∃ v, e = .returned v ∧ Rows.identTextsSpec.post enc Try.prog Try.f4 false true false false W args v W' := by
  have hW' := hW
  obtain ⟨p, q, hA0, hV, rfl, hfz, hnd⟩ := hW
  have hA : DataW.TrodAll enc Try.prog W 0 (fun _ => true) true Try.f4.params.toList args.toList ds p := hA0
  rw [Try.params4] at hA hval
  obtain ⟨rfl, rfl⟩ := trodVars_none hV
  obtain ⟨v0, vs0, d0, ds0, p0, q0, hargs, rfl, rfl, h0, r0⟩ := trodAll_cons hA
  obtain ⟨v1, vs1, d1, ds1, p1, q1, rfl, rfl, rfl, h1, r1⟩ := trodAll_cons r0
  obtain ⟨v2, vs2, d2, ds2, p2, q2, rfl, rfl, rfl, h2, r2⟩ := trodAll_cons r1
  obtain ⟨rfl, rfl, rfl⟩ := trodAll_nil r2
  obtain rfl : args = #[v0, v1, v2] := by cases args; simp_all
  obtain ⟨a, rfl, la⟩ := Opn.open_id (hval 0 _ v0 rfl rfl) h0
  obtain ⟨b, rfl, lb⟩ := Opn.open_id (hval 1 _ v1 rfl rfl) h1
  obtain ⟨s, rfl, rfl, rfl, hs⟩ := open_string Try.underlying9 (hval 2 _ v2 rfl rfl) h2
  refine (walk a b s W la lb hs).mono fun e W' ⟨he, bel⟩ => ?_
  subst he
  exact ⟨_, rfl, Opn.law_post laidOut (by kernel_rfl) rfl Try.underlying4 rfl rfl hW' bel⟩
set_option maxRecDepth 100000 in
theorem lifted (os : Os) (started : os.Started) (H : Type) (enc : TypeId × Value → H) :
    ReturnsInHanded {} Try.checked os 4 .any (Rows.identTextsSpec.pre6 enc Try.prog Try.f4 Rows.identTextsRow.domain false) (Rows.identTextsSpec.post enc Try.prog Try.f4 false true false false) := by
  refine returnsInHanded_of_change (C := Try.checked) own started (by kernel_rfl) Try.func4
    (ChangeSpec.witness6 (enc := enc) (C := Try.checked) false ⟨#[], #[idv (List.replicate 32 0), idv (List.replicate 32 0), .string .empty], []⟩ 8 (by kernel_rfl) (by kernel_rfl) (by kernel_rfl) (by kernel_rfl)) ?_
  intro W base args ds gs before hval0 hW hcnd _
  exact contract H enc W base args ds gs before hval0 hW
theorem over : Rows.identTextsRow.holds Try.pinned (OpenSpec.ofChange Rows.identTextsSpec) :=
  OpenClaim.holds_of_wide 4 Try.f4 rfl rfl rfl rfl rfl rfl rfl ⟨rfl, rfl, rfl, rfl, rfl⟩ rfl rfl rfl rfl rfl (by kernel_rfl) Try.func4 (by kernel_rfl)
    (of_decide_eq_true (by kernel_rfl)) (by unfold Func.isWrapper; first | (rw [if_pos (by decide +kernel)]; kernel_rfl) | (rw [if_neg (by decide +kernel)]; exact ⟨rfl, rfl⟩))
    (fun os started H enc _ => lifted os started H enc)
theorem proved : Rows.IdentTextsSaid := over
end IdTexts
end Go.Proofs.Ytkoolpalhahigaa
