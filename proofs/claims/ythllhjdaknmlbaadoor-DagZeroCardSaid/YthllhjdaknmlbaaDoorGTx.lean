/-
  A region that draws its order, whose last operation waits for all others: behind it nothing need hold. A call, as a step of a region in the text's order, without reckoning what is left. Regions that draw their order, walked by hand, branch by branch; calls of function values.
-/
import Derived.Test.YthllhjdaknmlbaaDoorText
import Derived.RegionTactic
set_option linter.unusedVariables false
set_option linter.unusedSimpArgs false

namespace Go.Proofs.YthllhjdaknmlbaaDoor
open Go.RowKit
namespace Txt
section
variable {P : Program} {ops : Array Oper} {S : World → Prop}

/-- The last operation stands behind each other one. -/
def lastB (ops : Array Oper) : Bool := let b := Region.before ops; decide (0 < ops.size) && (List.range (ops.size - 1)).all fun i => ordered b i (ops.size - 1)

def rem1 (ops : Array Oper) (listed : Array Bool) : List Nat := (List.range (ops.size - 1)).filter fun i => !listed.getD i true

theorem last_ready {listed : Array Bool} (hF : ∀ j o, ops[j]? = some o → ∀ e ∈ o.after, Region.binds .any e = true → e.on < j) (hsz : listed.size = ops.size) (hz : 0 < ops.size) (hL : listed.getD (ops.size - 1) true = false) (hr : rem1 ops listed = []) :
    ops.size - 1 ∈ Region.ready .any ops listed := by
  refine mem_ready.2 ⟨by simpa using hL, ops[ops.size - 1], Array.getElem?_eq_getElem (by omega), fun e he hb => ?_⟩
  have hlt := hF _ _ (Array.getElem?_eq_getElem (show ops.size - 1 < ops.size by omega)) e he hb
  cases hg : listed.getD e.on true with
  | true =>
    have hs : e.on < listed.size := by omega
    simp only [Array.getD_eq_getD_getElem?, Array.getElem?_eq_getElem hs, Option.getD_some] at hg ⊢
    exact hg
  | false =>
    exfalso
    have : e.on ∈ rem1 ops listed := by
      unfold rem1
      rw [List.mem_filter, List.mem_range]
      exact ⟨hlt, by simp [hg]⟩
    rw [hr] at this
    cases this
theorem wpAny_of_text1 {tg : Nat → Nat} (hF : Fits P ops tg) (hz : 0 < ops.size) (hA : ∀ x, x < ops.size - 1 → Anc ops x (ops.size - 1)) {Q : Exit → Act → World → Prop} : ∀ (fuel : Nat) (listed : Array Bool) (a : Act) (w : World), listed.size = ops.size →
    (rem1 ops listed).length = fuel → listed.getD (ops.size - 1) true = false → Closed ops listed → S w → wpT P ops S tg (wpOp P ops Q (ops.size - 1) (Q .normal)) (rem1 ops listed) a w → wpAny P .any ops Q (fuel + 1) listed a w
  | 0, listed, a, w, hsz, hl, hL, hc, hS, h => by
    have hnil := List.eq_nil_of_length_eq_zero hl
    have hrd := last_ready hF.back hsz hz hL hnil
    rw [hnil] at h
    constructor
    · intro hr
      rw [hr] at hrd
      cases hrd
    · intro i hi
      obtain ⟨h0, o, ho, hall⟩ := mem_ready.1 hi
      have hlt : i < ops.size := (Array.getElem?_eq_some_iff.1 ho).1
      have hiL : i = ops.size - 1 := by
        by_cases e : i = ops.size - 1
        · exact e
        · exfalso
          have : i ∈ rem1 ops listed := by
            unfold rem1
            rw [List.mem_filter, List.mem_range]
            exact ⟨by omega, by simp [h0]⟩
          rw [hnil] at this
          cases this
      subst hiL
      refine wpOp_mono (fun a' w' k => ⟨?_, k⟩) h
      cases hr : Region.ready .any ops (listed.setIfInBounds (ops.size - 1) true) with
      | nil => rfl
      | cons j js =>
        obtain ⟨g0, oj, hj, _⟩ := mem_ready.1 (hr ▸ List.mem_cons_self : j ∈ Region.ready .any ops (listed.setIfInBounds (ops.size - 1) true))
        exfalso
        have hjl : j < ops.size := (Array.getElem?_eq_some_iff.1 hj).1
        by_cases e : j = ops.size - 1
        · subst e
          simp [Array.getD_eq_getD_getElem?, hsz, hlt] at g0
        · have : j ∈ rem1 ops listed := by
            unfold rem1
            rw [List.mem_filter, List.mem_range]
            rw [getD_set_ne true (Ne.symm e)] at g0
            exact ⟨by omega, by simp [g0]⟩
          rw [hnil] at this
          cases this
  | fuel + 1, listed, a, w, hsz, hl, hL, hc, hS, h => by
    constructor
    · intro hr
      exfalso
      cases hrem : rem1 ops listed with
      | nil => rw [hrem] at hl; cases hl
      | cons i0 s =>
        have hm : i0 ∈ rem1 ops listed := by rw [hrem]; simp
        have key : ∀ n i, i ≤ n → i ∈ rem1 ops listed → False := by
          intro n
          induction n with
          | zero =>
            intro i hin hi
            unfold rem1 at hi
            rw [List.mem_filter, List.mem_range] at hi
            have hio : i < ops.size := by omega
            have : i ∈ Region.ready .any ops listed := mem_ready.2 ⟨by simpa using hi.2, ops[i], Array.getElem?_eq_getElem hio, fun e he hb => by
              have := hF.back i _ (Array.getElem?_eq_getElem hio) e he hb; omega⟩
            rw [hr] at this; cases this
          | succ n ih =>
            intro i hin hi
            have hi' := hi
            unfold rem1 at hi'
            rw [List.mem_filter, List.mem_range] at hi'
            have hio : i < ops.size := by omega
            have : i ∈ Region.ready .any ops listed := mem_ready.2 ⟨by simpa using hi'.2, ops[i], Array.getElem?_eq_getElem hio, fun e he hb => by
              have hlt := hF.back i _ (Array.getElem?_eq_getElem hio) e he hb
              cases hg : listed.getD e.on false with
              | true => rfl
              | false =>
                exfalso
                refine ih e.on (by omega) ?_
                unfold rem1
                rw [List.mem_filter, List.mem_range]
                refine ⟨by omega, ?_⟩
                have hs : e.on < listed.size := by omega
                simp only [Array.getD_eq_getD_getElem?, Array.getElem?_eq_getElem hs, Option.getD_some] at hg ⊢
                simp [hg]⟩
            rw [hr] at this; cases this
        exact key i0 i0 (Nat.le_refl _) hm
    · intro i hi
      obtain ⟨h0, o, ho, hall⟩ := mem_ready.1 hi
      have hlt : i < ops.size := (Array.getElem?_eq_some_iff.1 ho).1
      have hi1 : i < ops.size - 1 := by
        by_cases e : i = ops.size - 1
        · exfalso
          subst e
          cases hrem : rem1 ops listed with
          | nil => rw [hrem] at hl; cases hl
          | cons x s =>
            have hm : x ∈ rem1 ops listed := by rw [hrem]; simp
            unfold rem1 at hm
            rw [List.mem_filter, List.mem_range] at hm
            have h1 := anc_listed hc (hA x hm.1) (fun o' ho' e he hb => by rw [ho] at ho'; cases ho'; exact hall e he hb)
            have h2 : listed.getD x true = false := by simpa using hm.2
            have hs : x < listed.size := by omega
            simp only [Array.getD_eq_getD_getElem?, Array.getElem?_eq_getElem hs, Option.getD_some] at h1 h2
            rw [h1] at h2; cases h2
        · omega
      obtain ⟨l, s, e1, e2, e3⟩ := filter_split (p := fun i => !listed.getD i true) hi1 (by simp [h0])
      have hset : rem1 ops (listed.setIfInBounds i true) = l ++ s := by
        unfold rem1
        refine e3 _ (fun x hx => by rw [getD_set_ne true (Ne.symm hx)]) ?_
        simp [Array.getD_eq_getD_getElem?, hsz, hlt]
      have hrem : rem1 ops listed = l ++ i :: s := e1
      rw [hrem] at h hl
      have hno : ∀ x ∈ l, x < i ∧ ¬ Anc ops x i := fun x hx => ⟨(e2 x hx).1, fun hA => by
        have h1 := anc_listed hc hA (fun o' ho' e he hb => by rw [ho] at ho'; cases ho'; exact hall e he hb)
        have h2 : listed.getD x true = false := by simpa using (e2 x hx).2
        have hs : x < listed.size := by have := (e2 x hx).1; omega
        simp only [Array.getD_eq_getD_getElem?, Array.getElem?_eq_getElem hs, Option.getD_some] at h1 h2
        rw [h1] at h2; cases h2⟩
      have h' := wpT_front hF hlt l a w hS hno h
      refine wpOp_mono (fun a' w' ⟨hS', k⟩ => wpAny_of_text1 hF hz hA fuel _ a' w' (by simp [hsz]) ?_ ?_ ?_ hS' ?_) (stepT_wpOp hS hlt h')
      · rw [hset]; simp only [List.length_append, List.length_cons] at hl ⊢; omega
      · rw [getD_set_ne true (by omega)]; exact hL
      · intro j oj hj hlj hs e he hb
        by_cases hji : j = i
        · subst hji
          rw [ho] at hj; cases hj
          have := hall e he hb
          have hne : e.on ≠ j := by have := hF.back j _ ho e he hb; omega
          rw [getD_set_ne false (Ne.symm hne)]; exact this
        · rw [getD_set_ne true (Ne.symm hji)] at hlj
          have h1 := hc j oj hj hlj (by simpa using hs) e he hb
          by_cases hei : e.on = i
          · subst hei
            have hs' : e.on < listed.size := by omega
            simp [Array.getD_eq_getD_getElem?, hs']
          · rw [getD_set_ne false (Ne.symm hei)]; exact h1
      · rw [hset]; exact k
theorem wpT_of_list1 {tg : Nat → Nat} {Q : Act → World → Prop} : ∀ (l : List Oper) (ts : List Nat) (k : Nat), (∀ j, j < l.length → l[j]? = ops[k + j]?) → (∀ j, j < l.length → tg (k + j) = ts.getD j 4) → ∀ a w, S w → wpTG P ops S Q l ts a w → wpT P ops S tg Q (List.range' k l.length) a w
  | [], _, _, _, _, _, _, _, h => h
  | o :: l, ts, k, hl, ht, a, w, hS, h => by
    have h0 : ops[k]? = some o := by simpa using (hl 0 (by simp)).symm
    have hk : tg k = ts.headD 4 := by
      have := ht 0 (by simp)
      rw [Nat.add_zero] at this
      rw [this]; cases ts <;> rfl
    simp only [List.length_cons, List.range'_succ, wpT]
    rw [hk]
    unfold wpTG at h
    refine stepT_mono (fun a w hS k' => wpT_of_list1 l ts.tail (k + 1) (fun j hj => by have := hl (j + 1) (by simp; omega); simpa [Nat.add_assoc, Nat.add_comm 1 j] using this) (fun j hj => by
      have := ht (j + 1) (by simp; omega)
      rw [show k + 1 + j = k + (j + 1) from by omega, this]
      cases ts <;> rfl) a w hS k') hS (stepT_of_O h0 h)
theorem tl_last {i : Nat} {o : Oper} {Q : Exit → Act → World → Prop} {K : Act → World → Prop} {a : Act} {w : World} (ho : ops[i]? = some o) (hw : Region.wanted o (yielded ops a.tmps) = true) (h : o.wp P a w K Q) : wpOp P ops Q i K a w := by
  simp only [wpOp, ho]
  rw [if_pos hw]
  exact .inl h
/-- ████ A REGION THAT DRAWS ITS ORDER, IN THE TEXT's ORDER; behind the last operation, which waits for all others, nothing need hold ████ -/
theorem wp_region_text1 {id : Nat} {l : List Oper} {Q : Exit → Act → World → Prop} {a : Act} {w : World} (S : World → Prop) (ts : List Nat) (hm : P.follows .mixedOrders = true)
    (hB : (planB P l.toArray && (tagsOf P l.toArray == ts) && lastB l.toArray) = true) (hS : S w.drew)
    (h : wpTG P l.toArray S (wpOp P l.toArray Q (l.toArray.size - 1) (Q .normal)) l.dropLast ts a w.drew) : (Code.region id l.toArray true).wp P Q a w := by
  rw [Bool.and_eq_true, Bool.and_eq_true, beq_iff_eq] at hB
  obtain ⟨⟨hB, hts⟩, hlast⟩ := hB
  unfold lastB at hlast
  simp only [Bool.and_eq_true, decide_eq_true_eq, List.all_eq_true, List.mem_range] at hlast
  obtain ⟨hz, hlast⟩ := hlast
  have hz' : 0 < l.length := by simpa using hz
  have hA : ∀ x, x < l.toArray.size - 1 → Anc l.toArray x (l.toArray.size - 1) := fun x hx => before_anc (by
    have := hlast x hx
    unfold ordered at this
    rw [if_pos hx] at this
    exact this)
  refine wp_region_any hm ?_
  have hF := fits_of_plan hB
  have hdl : l.dropLast.length = l.length - 1 := by simp
  have full : rem1 l.toArray (Array.replicate l.toArray.size false) = List.range' 0 l.dropLast.length := by
    unfold rem1
    rw [List.filter_eq_self.2]
    · rw [List.range_eq_range']; simp
    · intro i hi
      rw [List.mem_range] at hi
      simp only [Array.getD_eq_getD_getElem?, Array.getElem?_replicate]
      rw [if_pos (by omega)]; rfl
  have hfuel : l.toArray.size = (l.length - 1) + 1 := by simp; omega
  rw [hfuel]
  have hrep : Array.replicate ((l.length - 1) + 1) false = Array.replicate l.toArray.size false := by rw [hfuel]
  rw [hrep]
  refine wpAny_of_text1 (S := S) hF hz hA _ _ a _ (by simp) (by rw [full]; simp) ?_ ?_ hS ?_
  · simp only [Array.getD_eq_getD_getElem?, Array.getElem?_replicate]
    rw [if_pos (by omega)]
    rfl
  · intro j o _ hl hs
    simp only [Array.size_replicate] at hs
    simp only [Array.getD_eq_getD_getElem?, Array.getElem?_replicate] at hl
    rw [if_pos hs] at hl
    cases hl
  · rw [full]
    refine wpT_of_list1 l.dropLast ts 0 (fun j hj => ?_) (fun j hj => ?_) a _ hS h
    · rw [Nat.zero_add, List.getElem?_toArray, List.getElem?_dropLast, if_pos (by omega)]
    · rw [← hts]
      have hj' : j < l.length := by omega
      simp [tagsOf, List.getD_eq_getElem?_getD, List.getElem?_range hj']
end
end Txt
end Go.Proofs.YthllhjdaknmlbaaDoor


namespace Go.Proofs.YthllhjdaknmlbaaDoor
open Go.RowKit
namespace Txt
section
variable {P : Program} {ops : Array Oper} {S : World → Prop} {Q : Act → World → Prop} {o : Oper} {rest : List Oper} {ts : List Nat} {a : Act} {w : World}
theorem run_call {f : Nat} {args : Array Operand} {ats : Array TypeId} {fn : Func} (hf : P.funcs[f]? = some fn) (hname : (fn.name == "runtime.NumGoroutine") = false) (hb : fn.body.isNone = false) (ho : o.op = .call { callee := .value (.func f), args := args, argTypes := ats }) : (execOp a.eval o).run P w = .ok (.enter f (args.map a.eval)) w := by
  unfold execOp
  simp only [ho]
  have h1 : fn.name ≠ "runtime.NumGoroutine" := by simpa using hname
  have h2 : ¬ fn.body = none := fun e => by rw [e] at hb; cases hb
  simp [go_sem, callFunc, run_program, hf, h1, h2]
theorem tl_call {f : Nat} {args : Array Operand} {ats : Array TypeId} {vs : Array Value} {R : Ending → World → Prop} {fn : Func} (hf : P.funcs[f]? = some fn) (hname : (fn.name == "runtime.NumGoroutine") = false) (hb : fn.body.isNone = false) (hw : Region.wanted o (yielded ops a.tmps) = true) (ho : o.op = .call { callee := .value (.func f), args := args, argTypes := ats })
    (hv : args.toList.map a.eval = vs.toList) (h : Calls P f vs w R) (hR : ∀ e w', R e w' → ∃ v, e = .returned v ∧ S w' ∧ wpTG P ops S Q rest ts (a.put o.dst v) w') : wpTG P ops S Q (o :: rest) (4 :: ts) a w := by
  refine tl_loud hw ?_
  unfold Oper.wp
  have hv' : args.map a.eval = vs := by apply Array.toList_inj.1; rw [Array.toList_map, hv]
  rw [run_call hf hname hb ho, hv', Oper.upon_enter]
  refine h.mono fun e w' he => ?_
  obtain ⟨v, rfl, h1, h2⟩ := hR e w' he
  exact ⟨h1, h2⟩
end
end Txt
end Go.Proofs.YthllhjdaknmlbaaDoor


namespace Go.Proofs.YthllhjdaknmlbaaDoor
open Go.RowKit
namespace Txt
section
variable {P : Program} {ops : Array Oper} {S : World → Prop} {o : Oper} {rest : List Oper} {ts : List Nat} {a : Act} {w : World}
theorem wp_call {K : Act → World → Prop} {Q : Exit → Act → World → Prop} {f : Nat} {args : Array Operand} {ats : Array TypeId} {vs : Array Value} {R : Ending → World → Prop} {fn : Func} (hf : P.funcs[f]? = some fn) (hname : (fn.name == "runtime.NumGoroutine") = false) (hb : fn.body.isNone = false) (ho : o.op = .call { callee := .value (.func f), args := args, argTypes := ats })
    (hv : args.toList.map a.eval = vs.toList) (h : Calls P f vs w R) (hR : ∀ e w', R e w' → ∃ v, e = .returned v ∧ K (a.put o.dst v) w') : o.wp P a w K Q := by
  unfold Oper.wp
  have hv' : args.map a.eval = vs := by apply Array.toList_inj.1; rw [Array.toList_map, hv]
  rw [run_call hf hname hb ho, hv', Oper.upon_enter]
  refine h.mono fun e w' he => ?_
  obtain ⟨v, rfl, h2⟩ := hR e w' he
  exact h2
theorem run_callv {x : Operand} {g : Nat} {bs ls : Array Value} {args : Array Operand} {ats : Array TypeId} (ho : o.op = .call { callee := .value x, args := args, argTypes := ats }) (hx : a.eval x = .func (.func g) bs ls) (eg : ∀ args w, (callFunc g args).run P w = .ok (.enter g args) w) :
    (execOp a.eval o).run P w = .ok (.enter g (bs ++ args.map a.eval ++ ls)) w := by
  unfold execOp
  simp only [ho, resolve, hx]
  simp [Deferred.ofValue, invoke, eg]
/-- A call of a function value. -/
theorem tl_callv {Q : Act → World → Prop} {x : Operand} {g : Nat} {bs ls : Array Value} {args : Array Operand} {ats : Array TypeId} {vs : Array Value} {R : Ending → World → Prop} (hw : Region.wanted o (yielded ops a.tmps) = true) (ho : o.op = .call { callee := .value x, args := args, argTypes := ats }) (hx : a.eval x = .func (.func g) bs ls) (eg : ∀ args w, (callFunc g args).run P w = .ok (.enter g args) w)
    (hv : args.toList.map a.eval = vs.toList) (h : Calls P g (bs ++ vs ++ ls) w R) (hR : ∀ e w', R e w' → ∃ v, e = .returned v ∧ S w' ∧ wpTG P ops S Q rest ts (a.put o.dst v) w') : wpTG P ops S Q (o :: rest) (4 :: ts) a w := by
  refine tl_loud hw ?_
  unfold Oper.wp
  have hv' : args.map a.eval = vs := by apply Array.toList_inj.1; rw [Array.toList_map, hv]
  rw [run_callv ho hx eg, hv', Oper.upon_enter]
  refine h.mono fun e w' he => ?_
  obtain ⟨v, rfl, h1, h2⟩ := hR e w' he
  exact ⟨h1, h2⟩
/-- One operation may come up. -/
theorem any_one {Q : Exit → Act → World → Prop} {fuel i : Nat} {listed : Array Bool} (hr : Region.ready .any ops listed = [i]) (ho : ops[i]? = some o) (hw : Region.wanted o (yielded ops a.tmps) = true)
    (h : o.wp P a w (wpAny P .any ops Q fuel (listed.setIfInBounds i true)) Q) : wpAny P .any ops Q (fuel + 1) listed a w :=
  wpAny_ready hr (by simp) (AllReady.cons ho (fun K hK => by
    rw [if_pos hw]
    exact Oper.wp_mono hK h) AllReady.nil)
/-- Two may. -/
theorem any_two {Q : Exit → Act → World → Prop} {fuel i j : Nat} {o' : Oper} {listed : Array Bool} (hr : Region.ready .any ops listed = [i, j]) (ho : ops[i]? = some o) (ho' : ops[j]? = some o') (hw : Region.wanted o (yielded ops a.tmps) = true) (hw' : Region.wanted o' (yielded ops a.tmps) = true)
    (h : o.wp P a w (wpAny P .any ops Q fuel (listed.setIfInBounds i true)) Q) (h' : o'.wp P a w (wpAny P .any ops Q fuel (listed.setIfInBounds j true)) Q) : wpAny P .any ops Q (fuel + 1) listed a w :=
  wpAny_ready hr (by simp) (AllReady.cons ho (fun K hK => by
    rw [if_pos hw]
    exact Oper.wp_mono hK h) (AllReady.cons ho' (fun K hK => by
    rw [if_pos hw']
    exact Oper.wp_mono hK h') AllReady.nil))
end
end Txt
end Go.Proofs.YthllhjdaknmlbaaDoor
