/-
  seq.Order: the closure that calls itself.
-/
import Derived.Test.YtgpimeobkacniaaSq5
import Derived.Test.YtgpimeobkacniaaGTx
set_option linter.unusedVariables false
set_option linter.unusedSimpArgs false
namespace Go.Proofs.Ytgpimeobkacniaa
open Go.RowKit
namespace Sq
open Oct Ids Mp
open Mem (M It blk ids rows)
section
variable {ops : Array Oper} {rest : List Oper} {o : Oper} {a : Act} {w : World} {Q : Exit → Act → World → Prop}
/-- A call of a function value. -/
theorem wl_callv {P : Program} (hgd : o.guard = none) {x : Operand} {g : Nat} {bs ls : Array Value} {args : Array Operand} {ats : Array TypeId} {vs : Array Value} {R : Ending → World → Prop} (ho : o.op = .call { callee := .value x, args := args, argTypes := ats }) (hx : a.eval x = .func (.func g) bs ls) (eg : ∀ args w, (callFunc g args).run P w = .ok (.enter g args) w)
    (hv : args.toList.map a.eval = vs.toList) (h : Calls P g (bs ++ vs ++ ls) w R) (hR : ∀ e w', R e w' → ∃ v, e = .returned v ∧ wpList P ops Q rest (a.put o.dst v) w') : wpList P ops Q (o :: rest) a w :=
  wpList_plain hgd fun K hK => by
    unfold Oper.wp
    have hv' : args.map a.eval = vs := by apply Array.toList_inj.1; rw [Array.toList_map, hv]
    rw [Txt.run_callv ho hx eg, hv', Oper.upon_enter]
    refine h.mono fun e w' he => ?_
    obtain ⟨v, rfl, h2⟩ := hR e w' he
    exact hK _ _ h2
theorem run_storeS {w : World} {p : Addr} {ad : Option Addr} {n c : Nat} {old : Value} (hc : w.cell? p = some old) (hf : w.frozen? p = false) : (Instr.storeAt 29 (.pointer (some p)) (.slice ad n c)).run Try.prog w = .ok () (w.setCell p (.slice ad n c)) := by
  go_simp
/-- A row's header stored. -/
theorem wl_storeS (hgd : o.guard = none) {x y : Operand} (ho : o.op = .store 29 x y) (hd : o.dst = none) {p : Addr} (hx : a.eval x = .pointer (some p)) {ad : Option Addr} {n c : Nat} (hy : a.eval y = .slice ad n c) {old : Value} (hc : w.cell? p = some old) (hf : w.frozen? p = false)
    (h : wpList Try.prog ops Q rest a (w.setCell p (.slice ad n c))) : wpList Try.prog ops Q (o :: rest) a w :=
  wpList_plain hgd fun K hK => by
    unfold Oper.wp execOp
    simp only [ho, hx, hy, Sem.run_bind, run_storeS hc hf, Result.andThen_ok, Sem.run_pure]
    rw [Oper.upon_skip, hd]
    exact hK _ _ h
end
theorem tyI : St.Ty 35 32 z32 := ⟨⟨_, Try.underlying35, rfl⟩, by kernel_rfl, rfl⟩
theorem at_callv {P : Program} {ops : Array Oper} {Q : Exit → Act → World → Prop} {d : Option Tmp} {ty : TypeId} {p : String} {k : Nat} {args : Array Operand} {ats : Array TypeId} {af} {g} {rest : List Oper} {a : Act} {w : World} (h : wpList P ops Q ({ dst := d, op := .call { callee := .value (.tmp k), args := args, argTypes := ats }, type := ty, pos := p, after := af, guard := g } :: rest) a w) : wpList P ops Q ({ dst := d, op := .call { callee := .value (.tmp k), args := args, argTypes := ats }, type := ty, pos := p, after := af, guard := g } :: rest) a w := h
/-- What stands behind r, first what stands first, then what stands behind that. -/
def pre (R : List UInt8 → List (List UInt8)) : Nat → List UInt8 → List (List UInt8)
  | 0, _ => []
  | n + 1, r => (R r).flatMap fun x => x :: pre R n x
/-- No way from r is longer than n. -/
def Dep (R : List UInt8 → List (List UInt8)) : Nat → List UInt8 → Prop
  | 0, r => R r = []
  | n + 1, r => ∀ x ∈ R r, Dep R n x
def rowsB (B : Bhs) (r : List UInt8) : List (List UInt8) := (rowB B r).2
theorem down_eg : ∀ args w, (callFunc 53 args).run Try.prog w = .ok (.enter 53 args) w := enters_of Try.func53 (by kernel_rfl) rfl
abbrev its (tf : TypeId) (b bn bb bg : Nat) (N : Nds) (B : Bhs) (G : List (List UInt8)) (sb ob fb : Nat) (ov : Value) (out : List (List UInt8)) : List It := [sqI b bn bb bg N B G, blk sb (.cells #[.pointer (some ⟨b, 0, none⟩)] 25), blk ob (.cells #[ov] 29), blk fb (.cells #[.func (.func 53) #[] #[.pointer (some ⟨sb, 0, none⟩), .pointer (some ⟨ob, 0, none⟩), .pointer (some ⟨fb, 0, none⟩)]] tf), ids ov out]
/-- What 'down' does from one id on. -/
def Down (tf : TypeId) (b bn bb bg : Nat) (N : Nds) (B : Bhs) (G : List (List UInt8)) (sb ob fb : Nat) (r : List UInt8) (l : List (List UInt8)) : Prop :=
  ∀ (F : Nat → Prop) (w0 w : World) (ov : Value) (out : List (List UInt8)), out.length + l.length ≤ 10000 → M F w0 w (its tf b bn bb bg N B G sb ob fb ov out) →
    Calls Try.prog 53 #[idv r, .pointer (some ⟨sb, 0, none⟩), .pointer (some ⟨ob, 0, none⟩), .pointer (some ⟨fb, 0, none⟩)] w fun e w' => e = .returned (.tuple #[]) ∧ ∃ ov', M F w0 w' (its tf b bn bb bg N B G sb ob fb ov' (out ++ l))
theorem flat_take {α β : Type} {l : List α} {k : Nat} {x : α} (h : l[k]? = some x) (f : α → List β) : (l.take (k + 1)).flatMap f = (l.take k).flatMap f ++ f x := by
  rw [List.take_add_one, h, List.flatMap_append]
  simp
theorem flat_len {α β : Type} {l : List α} {k : Nat} {x : α} (h : l[k]? = some x) (f : α → List β) : ((l.take k).flatMap f).length + (f x).length ≤ (l.flatMap f).length := by
  have e : l.flatMap f = (l.take k).flatMap f ++ (l.drop k).flatMap f := by rw [← List.flatMap_append, List.take_append_drop]
  have hk := (List.getElem?_eq_some_iff.1 h).1
  rw [e, List.drop_eq_getElem_cons hk, (List.getElem?_eq_some_iff.1 h).2, List.flatMap_cons]
  simp only [List.length_append]
  omega
set_option maxRecDepth 100000 in
set_option maxHeartbeats 8000000 in
theorem down_step (tf : TypeId) (b bn bb bg : Nat) (N : Nds) (B : Bhs) (G : List (List UInt8)) (sb ob fb : Nat) (r : List UInt8) (hr : r.length = 32) (hB : (rowsB B r).length ≤ 1000) (S : List UInt8 → List (List UInt8)) (hS : ∀ x ∈ rowsB B r, x.length = 32 → Down tf b bn bb bg N B G sb ob fb x (S x)) :
    Down tf b bn bb bg N B G sb ob fb r ((rowsB B r).flatMap fun x => x :: S x) := by
  intro F w0 w ov out hlen hM
  have HM : Hid (M F w0 _ (its tf b bn bb bg N B G sb ob fb ov out ++ [blk w.heap.size (.cells (r.map bv).toArray 35)])) := hM.alloc (.cells (r.map bv).toArray 35) rfl
  have HU : Hid (r.length = 32) := hr
  have HS : Hid (∀ x ∈ rowsB B r, x.length = 32 → Down tf b bn bb bg N B G sb ob fb x (S x)) := hS
  have HLn : Hid (out.length + ((rowsB B r).flatMap fun x => x :: S x).length ≤ 10000) := hlen
  have HRw : Hid (∀ w', SqAt w' b bn bb bg N B G → RowIs w' (rowB B r).1 (rowsB B r)) := fun w' h => row_is (h.all.get 4 rfl) r
  have HRow := HRw.out w (hM.get 0 rfl)
  have HLk := look_row B r
  obtain ⟨rv, hrv⟩ : ∃ v, (rowB B r).1 = v := ⟨_, rfl⟩
  rw [hrv] at HLk HRow HRw
  obtain ⟨L, hL⟩ : ∃ L, rowsB B r = L := ⟨_, rfl⟩
  rw [hL] at HRow HRw HS HLn hB ⊢
  obtain ⟨ra, rn, rc, e1, hat⟩ : ∃ ra rn rc, rv = .slice ra rn rc ∧ At w ra rn L := by
    rcases HRow with ⟨e1, e2⟩ | ⟨g, c, e1, hat, hc, hcm⟩
    · exact ⟨none, 0, 0, e1, by rw [e2]; exact iempty⟩
    · exact ⟨_, _, c, e1, hat⟩
  subst e1
  have HLk : Hid _ := HLk
  have HL : Hid (L.length = rn) := hat.len
  have HSz : Hid (∀ x ∈ L, x.length = 32) := hat.size
  have HAt : Hid (∀ w', SqAt w' b bn bb bg N B G → At w' ra rn L) := fun w' h => by
    rcases HRw.out w' h with ⟨e1, e2⟩ | ⟨g, c, e1, hat', hc, hcm⟩
    · cases e1
      rw [e2]
      exact iempty
    · simp only [Value.slice.injEq] at e1
      obtain ⟨e1, e2, -⟩ := e1
      rw [e1, e2]
      exact hat'
  have hrn : rn ≤ 1000 := by rw [← hat.len]; exact hB
  clear hrv hM hr hS hlen HRow HRw hL hB hat
  go_enter Try.func53, Try.ntmps53
  go_wp2
  have HM : Hid _ := HM.out.drew
  have cs := HM.out.cell 1 rfl 0 (v := .pointer (some ⟨b, 0, none⟩)) rfl
  have c1 := (show SqAt _ b bn bb bg N B G from HM.out.get 0 rfl).cells.2.1
  have HIs : Hid _ := (show SqAt _ b bn bb bg N B G from HM.out.get 0 rfl).all.get 2 rfl
  refine Txt.wp_region_text (fun _ => True) [1, 0, 0, 1, 1, 1, 0, 0] (by kernel_rfl) (by kernel_rfl) trivial ?_
  (repeat (first | (refine Txt.tl_pure (v := ?_) (by rfl) ?_ ?_; rotate_left; (focus (intro _; go_simp; try with_reducible rfl)); simp only [Act.put, List.setIfInBounds_toArray, List.set_cons_zero, List.set_cons_succ]) | (refine Txt.tl_load (v := ?_) (by rfl) (by rfl) (by rfl) (by kernel_rfl) ?_ ?_; rotate_left; (focus assumption); simp only [Act.put, List.setIfInBounds_toArray, List.set_cons_zero, List.set_cons_succ]) | (refine Txt.tl_rowN (n := 32) (ty := 35) (by rfl) (by rfl) (by rfl) (HM.out.range 5 rfl) (by kernel_rfl) (by rw [List.length_map]; exact HU.out) ?_; simp only [Act.put, List.setIfInBounds_toArray, List.set_cons_zero, List.set_cons_succ]) | (refine Txt.tl_skip (by rfl) trivial ?_; simp only [Act.put, List.setIfInBounds_toArray, List.set_cons_zero, List.set_cons_succ])))
  refine Mp.tl_look idKey Try.underlying94 (by rfl) rfl rfl HIs.out zeroR HU.out rfl HLk.out ?_
  simp only [Act.put, List.setIfInBounds_toArray, List.set_cons_zero, List.set_cons_succ]
  (repeat (first | (refine Txt.tl_pure (v := ?_) (by rfl) ?_ ?_; rotate_left; (focus (intro _; go_simp; try with_reducible rfl)); simp only [Act.put, List.setIfInBounds_toArray, List.set_cons_zero, List.set_cons_succ]) | (refine Txt.tl_load (v := ?_) (by rfl) (by rfl) (by rfl) (by kernel_rfl) ?_ ?_; rotate_left; (focus assumption); simp only [Act.put, List.setIfInBounds_toArray, List.set_cons_zero, List.set_cons_succ]) | (refine Txt.tl_rowN (n := 32) (ty := 35) (by rfl) (by rfl) (by rfl) (HM.out.range 5 rfl) (by kernel_rfl) (by rw [List.length_map]; exact HU.out) ?_; simp only [Act.put, List.setIfInBounds_toArray, List.set_cons_zero, List.set_cons_succ]) | (refine Txt.tl_skip (by rfl) trivial ?_; simp only [Act.put, List.setIfInBounds_toArray, List.set_cons_zero, List.set_cons_succ])))
  refine Txt.tl_nil ?_
  clear cs c1 HIs
  go_wp2
  have HM : Hid (M F w0 _ (its tf b bn bb bg N B G sb ob fb ov out)) := HM.out.take 5
  go_loopw [14] (fun s14 wr => ∃ (k : Nat) (v : Value), k ≤ rn ∧ s14 = .int .i64 k ∧ M F w0 wr (its tf b bn bb bg N B G sb ob fb v (out ++ (L.take k).flatMap fun x => x :: S x))) (fun s14 _ => rn - (intOf s14).toNat)
  case atStart => exact ⟨0, ov, Nat.zero_le _, by go_num, by rw [List.take_zero, List.flatMap_nil, List.append_nil]; exact HM.out⟩
  case round =>
    clear HM
    obtain ⟨k, v, hk, rfl, hM⟩ := hrel
    have HM : Hid _ := hM
    clear hM
    by_cases hlt : k < rn
    · obtain ⟨x, hx⟩ : ∃ x, L[k]? = some x := ⟨_, List.getElem?_eq_getElem (by rw [HL.out]; exact hlt)⟩
      have HXl : Hid (x.length = 32) := HSz.out x (List.mem_of_getElem? hx)
      have HXs : Hid ((x.map bv).toArray.size = 32) := by show _ = _; rw [List.size_toArray, List.length_map]; exact HXl.out
      obtain ⟨g0, o0, e0, _, hr0⟩ := (HAt.out wr (HM.out.get 0 rfl)).lay.resolve_left (by omega)
      subst e0
      have R1 : Hid (wr.rangeAt g0 (o0 + k * 32) (x.map bv)) := hr0 k x hx
      have HDn : Hid (Down tf b bn bb bg N B G sb ob fb x (S x)) := HS.out x (List.mem_of_getElem? hx) HXl.out
      have HE : Hid ((L.take (k + 1)).flatMap (fun x => x :: S x) = (L.take k).flatMap (fun x => x :: S x) ++ (x :: S x)) := flat_take hx _
      have HLe : Hid ((out ++ (L.take k).flatMap fun x => x :: S x).length + (x :: S x).length ≤ 10000) := by
        show _ ≤ _
        have h1 := flat_len hx (fun x => x :: S x)
        have h2 := HLn.out
        rw [List.length_append]
        omega
      obtain ⟨q, hq⟩ : ∃ q, (out ++ (L.take k).flatMap fun x => x :: S x) = q := ⟨_, rfl⟩
      have Hq : Hid _ := hq
      rw [hq] at HM HLe
      clear hr0 hx hq
      go_wp2_with (first | ((with_reducible refine at_load 35 ?_); first | (refine Ids.wl_load rfl rfl rfl HXl.out (HM.out.range 5 rfl) ?_; simp only [Act.put, List.setIfInBounds_toArray, List.set_cons_zero, List.set_cons_succ]) | (refine Ids.wl_load rfl rfl rfl HXl.out R1.out ?_; simp only [Act.put, List.setIfInBounds_toArray, List.set_cons_zero, List.set_cons_succ])) | ((with_reducible refine at_alloc 35 ?_); refine St.wl_alloc tyI rfl rfl (by (try simp only [World.size_alloc]); rfl) ?_; simp only [Act.put, List.setIfInBounds_toArray, List.set_cons_zero, List.set_cons_succ]) | ((with_reducible refine at_store 35 ?_); refine St.wl_storeN (W := wr) tyI rfl rfl rfl rfl rfl (by (try simp only [World.size_alloc])) (show _ = Value.agg (x.map bv).toArray from rfl) HXs.out rfl (one_bv _) ?_; have HM : Hid _ := HM.out.alloc (.cells (x.map bv).toArray 35) rfl; have co := HM.out.cell 2 rfl 0 (v := v) rfl; have cf := HM.out.cell 3 rfl 0 (v := Value.func (.func 53) #[] #[.pointer (some ⟨sb, 0, none⟩), .pointer (some ⟨ob, 0, none⟩), .pointer (some ⟨fb, 0, none⟩)]) rfl) | (refine St.wl_build slId (by decide) rfl rfl (by rw [List.length_map]; exact HXl.out) rfl ?_; have HM : Hid _ := HM.out.alloc (.cells (x.map bv).toArray 35) rfl; simp only [Act.put, List.setIfInBounds_toArray, List.set_cons_zero, List.set_cons_succ]) | (refine Ids.wl_app1 rfl rfl rfl (HM.out.get 4 rfl) rfl HXl.out (HM.out.get 6 rfl) (by have := HLe.out; omega) ?_; intro v2 w2 h2 k2 g2; have HM : Hid _ := HM.out.appI 4 rfl h2 k2 g2; obtain ⟨a2, c2, e2, _⟩ := h2.at; subst e2; obtain ⟨n2, hn2⟩ : ∃ n, (q ++ [x]).length = n := ⟨_, rfl⟩; rw [hn2] at HM ⊢; clear h2 k2 g2 co cf hn2; simp only [Act.put, List.setIfInBounds_toArray, List.set_cons_zero, List.set_cons_succ]) | ((with_reducible refine at_store 29 ?_); refine wl_storeS rfl rfl rfl rfl rfl (HM.out.cell 2 rfl 0 rfl) (HM.out.free 2 rfl 0) ?_; have HM : Hid (M F w0 _ (its tf b bn bb bg N B G sb ob fb (.slice a2 n2 c2) (q ++ [x]) ++ [blk wr.heap.size (.cells (x.map bv).toArray 35)])) := (HM.out.setc 2 rfl 0 (.slice a2 n2 c2)).take 6; have cf := HM.out.cell 3 rfl 0 (v := Value.func (.func 53) #[] #[.pointer (some ⟨sb, 0, none⟩), .pointer (some ⟨ob, 0, none⟩), .pointer (some ⟨fb, 0, none⟩)]) rfl) | ((with_reducible refine at_callv ?_); refine wl_callv rfl rfl rfl down_eg (vs := #[idv x]) rfl (HDn.out F w0 _ (.slice a2 n2 c2) (q ++ [x]) (by have := HLe.out; simp only [List.length_append, List.length_cons, List.length_nil] at this ⊢; omega) (HM.out.take 5)) ?_; rintro e w9 ⟨rfl, v9, m9⟩; have HM : Hid _ := m9; clear m9 cf; refine ⟨_, rfl, ?_⟩; simp only [Act.put, List.setIfInBounds_toArray, List.set_cons_zero, List.set_cons_succ]))
      go_roundw
      case rel => exact ⟨k + 1, v9, by omega, by go_num, by rw [HE.out, ← List.append_assoc, Hq.out, show x :: S x = [x] ++ S x from rfl, ← List.append_assoc]; exact HM.out⟩
      case measure => simp [intOf]; omega
    · obtain rfl : rn = k := by omega
      have HE : Hid (L.take rn = L) := List.take_of_length_le (by rw [HL.out]; exact Nat.le_refl _)
      have HM := HM.out
      rw [HE.out] at HM
      have HM : Hid _ := HM
      go_wp2
      go_end0
      exact ⟨rfl, v, HM.out⟩
theorem down_any (tf : TypeId) (b bn bb bg : Nat) (N : Nds) (B : Bhs) (G : List (List UInt8)) (sb ob fb : Nat) (hB : ∀ r, (rowsB B r).length ≤ 1000) : ∀ (n : Nat) (r : List UInt8), r.length = 32 → Dep (rowsB B) n r → Down tf b bn bb bg N B G sb ob fb r (pre (rowsB B) (n + 1) r)
  | 0, r, hr, hd => down_step tf b bn bb bg N B G sb ob fb r hr (hB r) (fun x => pre (rowsB B) 0 x) (fun x hx _ => by rw [show rowsB B r = [] from hd] at hx; cases hx)
  | n + 1, r, hr, hd => down_step tf b bn bb bg N B G sb ob fb r hr (hB r) (fun x => pre (rowsB B) (n + 1) x) (fun x hx hl => down_any tf b bn bb bg N B G sb ob fb hB n x hl (hd x hx))
end Sq
end Go.Proofs.Ytgpimeobkacniaa
