/-
  A region that draws its order, in the text's order, with a second condition behind an operation that all later ones wait for.
-/
import Derived.Test.YtgpimeobkacniaaGTx
set_option linter.unusedVariables false
set_option linter.unusedSimpArgs false
namespace Go.Proofs.Ytgpimeobkacniaa
open Go.RowKit
namespace Txt
variable {P : Program} {ops : Array Oper} {S S2 : World → Prop}
/-- All that stands from m on waits for all that stands ahead of it. -/
def domB (ops : Array Oper) (m : Nat) : Bool := let b := Region.before ops; (List.range ops.size).all fun i => decide (i < m) || (List.range m).all fun x => (b.getD i 0).testBit x
theorem dom_of {m : Nat} (h : domB ops m = true) : ∀ i, m ≤ i → i < ops.size → ∀ x, x < m → Anc ops x i := fun i hi hlt x hx => by
  unfold domB at h
  simp only [List.all_eq_true, List.mem_range, Bool.or_eq_true, decide_eq_true_eq] at h
  rcases h i hlt with h1 | h1
  · omega
  · exact before_anc (h1 x hx)
theorem ready_some {tg : Nat → Nat} (hF : Fits P ops tg) {listed : Array Bool} (hsz : listed.size = ops.size) (hr : Region.ready .any ops listed = []) : ∀ n i, i ≤ n → i ∈ rem ops listed → False := by
  intro n
  induction n with
  | zero =>
    intro i hin hi
    unfold rem at hi
    rw [List.mem_filter, List.mem_range] at hi
    have : i ∈ Region.ready .any ops listed := mem_ready.2 ⟨by simpa using hi.2, ops[i], Array.getElem?_eq_getElem hi.1, fun e he hb => by
      have := hF.back i _ (Array.getElem?_eq_getElem hi.1) e he hb; omega⟩
    rw [hr] at this; cases this
  | succ n ih =>
    intro i hin hi
    have hi' := hi
    unfold rem at hi'
    rw [List.mem_filter, List.mem_range] at hi'
    have : i ∈ Region.ready .any ops listed := mem_ready.2 ⟨by simpa using hi'.2, ops[i], Array.getElem?_eq_getElem hi'.1, fun e he hb => by
      have hlt := hF.back i _ (Array.getElem?_eq_getElem hi'.1) e he hb
      cases hg : listed.getD e.on false with
      | true => rfl
      | false =>
        exfalso
        refine ih e.on (by omega) ?_
        unfold rem
        rw [List.mem_filter, List.mem_range]
        refine ⟨by omega, ?_⟩
        have hs : e.on < listed.size := by omega
        simp only [Array.getD_eq_getD_getElem?, Array.getElem?_eq_getElem hs, Option.getD_some] at hg ⊢
        simp [hg]⟩
    rw [hr] at this; cases this
def remP (m : Nat) (listed : Array Bool) : List Nat := (List.range m).filter fun i => !listed.getD i true
theorem rem_two {m : Nat} {listed : Array Bool} (hm : m ≤ ops.size) (hn : ∀ i, m ≤ i → i < ops.size → listed.getD i true = false) : rem ops listed = remP m listed ++ List.range' m (ops.size - m) := by
  unfold rem remP
  have e : List.range ops.size = List.range m ++ List.range' m (ops.size - m) := by
    rw [List.range_eq_range', List.range_eq_range']
    have := List.range'_append_1 (s := 0) (m := m) (n := ops.size - m)
    rw [Nat.zero_add, show m + (ops.size - m) = ops.size by omega] at this
    exact this.symm
  rw [e, List.filter_append]
  congr 1
  refine List.filter_eq_self.2 fun i hi => ?_
  rw [List.mem_range'_1] at hi
  rw [hn i hi.1 (by omega)]
  rfl
theorem wpAny_two {tg : Nat → Nat} (hF : Fits P ops tg) {m : Nat} (hm : m ≤ ops.size) (hd : ∀ i, m ≤ i → i < ops.size → ∀ x, x < m → Anc ops x i) {Q : Exit → Act → World → Prop} : ∀ (fuel : Nat) (listed : Array Bool) (a : Act) (w : World), listed.size = ops.size →
    (rem ops listed).length = fuel → Closed ops listed → (∀ i, m ≤ i → i < ops.size → listed.getD i true = false) → S w →
    wpT P ops S tg (fun a w => ∃ S2 : World → Prop, S2 w ∧ wpT P ops S2 tg (Q .normal) (List.range' m (ops.size - m)) a w) (remP m listed) a w → wpAny P .any ops Q fuel listed a w := by
  intro fuel
  induction fuel with
  | zero =>
    intro listed a w hsz hl hc hn hS h
    have e := rem_two hm hn
    have e0 : remP m listed = [] := by
      have := List.eq_nil_of_length_eq_zero hl
      rw [e] at this
      exact (List.append_eq_nil_iff.1 this).1
    rw [e0] at h e
    obtain ⟨S2, h1, h2⟩ := h
    exact wpAny_of_text (S := S2) hF 0 listed a w hsz hl hc h1 (by rw [e]; exact h2)
  | succ fuel ih =>
    intro listed a w hsz hl hc hn hS h
    have er := rem_two hm hn
    by_cases e0 : remP m listed = []
    · rw [e0] at h er
      obtain ⟨S2, h1, h2⟩ := h
      exact wpAny_of_text (S := S2) hF _ listed a w hsz hl hc h1 (by rw [er]; exact h2)
    constructor
    · intro hr
      exfalso
      cases hrem : remP m listed with
      | nil => exact e0 hrem
      | cons i0 s => exact ready_some hF hsz hr i0 i0 (Nat.le_refl _) (by rw [er, hrem]; simp)
    · intro i hi
      obtain ⟨h0, o, ho, hall⟩ := mem_ready.1 hi
      have hlt : i < ops.size := (Array.getElem?_eq_some_iff.1 ho).1
      have him : i < m := by
        refine Nat.lt_of_not_le fun hle => e0 ?_
        unfold remP
        refine List.filter_eq_nil_iff.2 fun x hx => ?_
        rw [List.mem_range] at hx
        have h1 := anc_listed hc (hd i hle hlt x hx) (fun o' ho' e he hb => by rw [ho] at ho'; cases ho'; exact hall e he hb)
        have hs : x < listed.size := by omega
        simp only [Array.getD_eq_getD_getElem?, Array.getElem?_eq_getElem hs, Option.getD_some] at h1 ⊢
        simp [h1]
      obtain ⟨l, s, e1, e2, e3⟩ := filter_split (p := fun i => !listed.getD i true) him (by simp [h0])
      have hset : remP m (listed.setIfInBounds i true) = l ++ s := by
        unfold remP
        refine e3 _ (fun x hx => by rw [getD_set_ne true (Ne.symm hx)]) ?_
        simp [Array.getD_eq_getD_getElem?, hsz, hlt]
      have hrem : remP m listed = l ++ i :: s := e1
      rw [hrem] at h er
      rw [er] at hl
      clear er
      have hno : ∀ x ∈ l, x < i ∧ ¬ Anc ops x i := fun x hx => ⟨(e2 x hx).1, fun hA => by
        have h1 := anc_listed hc hA (fun o' ho' e he hb => by rw [ho] at ho'; cases ho'; exact hall e he hb)
        have h2 : listed.getD x true = false := by simpa using (e2 x hx).2
        have hs : x < listed.size := by have := (e2 x hx).1; omega
        simp only [Array.getD_eq_getD_getElem?, Array.getElem?_eq_getElem hs, Option.getD_some] at h1 h2
        rw [h1] at h2; cases h2⟩
      have h' := wpT_front hF hlt l a w hS hno h
      have hn' : ∀ j, m ≤ j → j < ops.size → (listed.setIfInBounds i true).getD j true = false := fun j hj hj2 => by
        rw [getD_set_ne true (by omega : i ≠ j)]
        exact hn j hj hj2
      refine wpOp_mono (fun a' w' ⟨hS', k⟩ => ih _ a' w' (by simp [hsz]) ?_ ?_ hn' hS' ?_) (stepT_wpOp hS hlt h')
      · rw [rem_two hm hn', hset]
        simp only [List.length_append, List.length_cons] at hl ⊢
        omega
      · intro j oj hj hlj hs e he hb
        by_cases hji : j = i
        · subst hji
          rw [ho] at hj; cases hj
          have := hall e he hb
          have hne : e.on ≠ j := by have := hF.back j _ ho e he hb; omega
          rw [getD_set_ne false (Ne.symm hne)]; exact this
        · rw [getD_set_ne true (Ne.symm hji)] at hlj
          have h1 := hc j oj hj hlj (by simpa using hs) e he hb
          by_cases hei : e.on = i
          · subst hei
            have hs' : e.on < listed.size := by omega
            simp [Array.getD_eq_getD_getElem?, hs']
          · rw [getD_set_ne false (Ne.symm hei)]; exact h1
      · rw [hset]; exact k
theorem wpT_of_list2 {tg : Nat → Nat} {Q Q' : Act → World → Prop} (hQ : ∀ a w, S w → Q a w → Q' a w) : ∀ (l : List Oper) (ts : List Nat) (k : Nat), (∀ j, j < l.length → l[j]? = ops[k + j]?) → (∀ j, j < l.length → tg (k + j) = ts.getD j 4) → ∀ a w, S w → wpTG P ops S Q l ts a w → wpT P ops S tg Q' (List.range' k l.length) a w
  | [], _, _, _, _, a, w, hS, h => hQ a w hS h
  | o :: l, ts, k, hl, ht, a, w, hS, h => by
    have h0 : ops[k]? = some o := by simpa using (hl 0 (by simp)).symm
    have hk : tg k = ts.headD 4 := by
      have := ht 0 (by simp)
      rw [Nat.add_zero] at this
      rw [this]; cases ts <;> rfl
    simp only [List.length_cons, List.range'_succ, wpT]
    rw [hk]
    unfold wpTG at h
    refine stepT_mono (fun a w hS k' => wpT_of_list2 hQ l ts.tail (k + 1) (fun j hj => by have := hl (j + 1) (by simp; omega); simpa [Nat.add_assoc, Nat.add_comm 1 j] using this) (fun j hj => by
      have := ht (j + 1) (by simp; omega)
      rw [show k + 1 + j = k + (j + 1) from by omega, this]
      cases ts <;> rfl) a w hS k') hS (stepT_of_O h0 h)
/-- A region that draws its order, in the text's order: S up to m, S2 from there on. -/
theorem wp_region_two {id : Nat} {l : List Oper} {Q : Exit → Act → World → Prop} {a : Act} {w : World} (S : World → Prop) (m : Nat) (ts ts2 : List Nat) (hx : P.follows .mixedOrders = true)
    (hB : (planB P l.toArray && (tagsOf P l.toArray == ts ++ ts2)) = true) (hD : (domB l.toArray m && (ts.length == m) && decide (m ≤ l.toArray.size)) = true) (hS : S w.drew)
    (h : wpTG P l.toArray S (fun a w => ∃ S2 : World → Prop, S2 w ∧ wpTG P l.toArray S2 (Q .normal) (l.drop m) ts2 a w) (l.take m) ts a w.drew) : (Code.region id l.toArray true).wp P Q a w := by
  rw [Bool.and_eq_true, beq_iff_eq] at hB
  obtain ⟨hB, hts⟩ := hB
  rw [Bool.and_eq_true, Bool.and_eq_true, beq_iff_eq, decide_eq_true_eq] at hD
  obtain ⟨⟨hD, hl⟩, hm⟩ := hD
  refine wp_region_any hx ?_
  have hF := fits_of_plan hB
  have hml : m ≤ l.length := by simpa using hm
  have full : rem l.toArray (Array.replicate l.toArray.size false) = List.range' 0 l.length := by
    unfold rem
    rw [List.filter_eq_self.2]
    · rw [List.range_eq_range']; simp
    · intro i hi
      rw [List.mem_range] at hi
      simp only [Array.getD_eq_getD_getElem?, Array.getElem?_replicate]
      rw [if_pos hi]; rfl
  have fullP : remP m (Array.replicate l.toArray.size false) = List.range' 0 (l.take m).length := by
    unfold remP
    rw [List.filter_eq_self.2]
    · rw [List.range_eq_range', List.length_take, Nat.min_eq_left hml]
    · intro i hi
      rw [List.mem_range] at hi
      simp only [Array.getD_eq_getD_getElem?, Array.getElem?_replicate]
      rw [if_pos (by omega)]; rfl
  have htg : ∀ j, j < l.length → tagAt P l.toArray (Region.before l.toArray) j = (ts ++ ts2).getD j 4 := fun j hj => by
    rw [← hts]
    have hj' : j < l.toArray.size := by simpa using hj
    simp [tagsOf, List.getD_eq_getElem?_getD, List.getElem?_range hj]
  refine wpAny_two (S := S) hF hm (dom_of hD) _ _ a _ (by simp) (by rw [full]; simp) ?_ ?_ hS ?_
  · intro j o _ hl hs
    simp only [Array.size_replicate] at hs
    simp only [Array.getD_eq_getD_getElem?, Array.getElem?_replicate] at hl
    rw [if_pos hs] at hl
    cases hl
  · intro i _ hi
    simp only [Array.getD_eq_getD_getElem?, Array.getElem?_replicate]
    rw [if_pos hi]; rfl
  · rw [fullP]
    refine wpT_of_list2 (fun a w _ ⟨S2, hq1, hq2⟩ => ⟨S2, hq1, ?_⟩) (l.take m) ts 0 (fun j hj => ?_) (fun j hj => ?_) a _ hS h
    · rw [List.length_take, Nat.min_eq_left hml] at hj
      rw [Nat.zero_add, List.getElem?_take, if_pos hj, List.getElem?_toArray]
    · rw [List.length_take, Nat.min_eq_left hml] at hj
      rw [Nat.zero_add, htg j (by omega)]
      simp only [List.getD_eq_getElem?_getD]
      rw [List.getElem?_append_left (by omega)]
    · have hlen : l.toArray.size - m = (l.drop m).length := by simp
      rw [hlen]
      refine wpT_of_list2 (fun a w _ h => h) (l.drop m) ts2 m (fun j hj => ?_) (fun j hj => ?_) a w hq1 hq2
      · rw [List.getElem?_drop, List.getElem?_toArray]
      · rw [List.length_drop] at hj
        rw [htg (m + j) (by omega)]
        simp only [List.getD_eq_getElem?_getD]
        rw [List.getElem?_append_right (by omega), hl, Nat.add_sub_cancel_left]
end Txt
end Go.Proofs.Ytgpimeobkacniaa
