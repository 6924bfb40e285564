/-
  msg.Cut: walked.
-/
import Derived.Test.YthllhjdaknmlbaaMc2
import Derived.Test.YthllhjdaknmlbaaGTx
import Derived.Test.YthllhjdaknmlbaaRng
set_option linter.unusedVariables false
set_option linter.unusedSimpArgs false
namespace Go.Proofs.Ythllhjdaknmlbaa
open Go.RowKit
namespace Txt
section
variable {P : Program} {n lp : Nat}
/-- A region that draws its order, in a round; behind its last operation nothing need hold. -/
theorem wp_region_round1 {id : Nat} {l : List Oper} {Q : Exit → Act → World → Prop} {a : Act} {w : World} (S : World → Prop) (ts : List Nat) (hm : P.follows .mixedOrders = true)
    (hB : (planB P l.toArray && (tagsOf P l.toArray == ts) && lastB l.toArray) = true) (hN : noDefer l.toArray = true) (hQ : ¬ LetsOut Q) (hS : S w.drew)
    (h : wpTG P l.toArray S (wpOp P l.toArray Q (l.toArray.size - 1) (Q .normal)) l.dropLast ts a w.drew) : (Code.region id l.toArray true).wpIn (Fence.wide.inRound lp) n P Q a w := by
  rw [Bool.and_eq_true, Bool.and_eq_true, beq_iff_eq] at hB
  obtain ⟨⟨hB, hts⟩, hlast⟩ := hB
  unfold lastB at hlast
  simp only [Bool.and_eq_true, decide_eq_true_eq, List.all_eq_true, List.mem_range] at hlast
  obtain ⟨hz, hlast⟩ := hlast
  have hz' : 0 < l.length := by simpa using hz
  have hA : ∀ x, x < l.toArray.size - 1 → Anc l.toArray x (l.toArray.size - 1) := fun x hx => before_anc (by
    have := hlast x hx
    unfold ordered at this
    rw [if_pos hx] at this
    exact this)
  refine wpIn_region_any hm (wpAny_round (noDefer_of hN) hQ _ _ _ _ ?_)
  have hF := fits_of_plan hB
  have hdl : l.dropLast.length = l.length - 1 := by simp
  have full : rem1 l.toArray (Array.replicate l.toArray.size false) = List.range' 0 l.dropLast.length := by
    unfold rem1
    rw [List.filter_eq_self.2]
    · rw [List.range_eq_range']; simp
    · intro i hi
      rw [List.mem_range] at hi
      simp only [Array.getD_eq_getD_getElem?, Array.getElem?_replicate]
      rw [if_pos (by omega)]; rfl
  have hfuel : l.toArray.size = (l.length - 1) + 1 := by simp; omega
  rw [hfuel]
  have hrep : Array.replicate ((l.length - 1) + 1) false = Array.replicate l.toArray.size false := by rw [hfuel]
  rw [hrep]
  refine wpAny_of_text1 (S := S) hF hz hA _ _ a _ (by simp) (by rw [full]; simp) ?_ ?_ hS ?_
  · simp only [Array.getD_eq_getD_getElem?, Array.getElem?_replicate]
    rw [if_pos (by omega)]
    rfl
  · intro j o _ hl hs
    simp only [Array.size_replicate] at hs
    simp only [Array.getD_eq_getD_getElem?, Array.getElem?_replicate] at hl
    rw [if_pos hs] at hl
    cases hl
  · rw [full]
    refine wpT_of_list1 l.dropLast ts 0 (fun j hj => ?_) (fun j hj => ?_) a _ hS h
    · rw [Nat.zero_add, List.getElem?_toArray, List.getElem?_dropLast, if_pos (by omega)]
    · rw [← hts]
      have hj' : j < l.length := by omega
      simp [tagsOf, List.getD_eq_getElem?_getD, List.getElem?_range hj']
end
end Txt
namespace Mc
open Oct Ids
open Ms hiding M
open Mem (M It blk ids rows)
attribute [local go_sem] Oper.semAt_some
/-- What Cut answers. -/
def CutPost (K : Int) (l : List (List UInt8)) (w : World) (e : Ending) (w' : World) : Prop :=
  ∃ v L, e = .returned v ∧ M (fun _ => False) w w' (rows 28 3 (encG K) v L :: L.map idG) ∧ L.map (·.u) = cutL K l
/-- What is held in the loop. -/
def its (K : Int) (kb ob b1 b2 : Nat) (a : Option Addr) (n c : Nat) (v : Value) (L : List G) : List It :=
  [blk kb (.cells #[.int .i64 K] 3), blk ob (.cells #[v] 24), blk b1 (.cells #[.slice a n c] 22), blk b2 (.cells #[.int .i64 16] 3), rows 28 3 (encG K) v L] ++ L.map idG
theorem its_cl {K : Int} {kb ob b1 b2 : Nat} {a : Option Addr} {n c : Nat} {v : Value} {L : List G} : ∀ x ∈ its K kb ob b1 b2 a n c v L, x.cl := by
  intro x hx
  unfold its at hx
  rcases List.mem_append.1 hx with h | h
  · simp only [List.mem_cons, List.not_mem_nil, or_false] at h
    rcases h with rfl | rfl | rfl | rfl | rfl
    · exact Mem.cl_blk _ _ _ _
    · exact Mem.cl_blk _ _ _ _
    · exact Mem.cl_blk _ _ _ _
    · exact Mem.cl_blk _ _ _ _
    · exact Mem.cl_rows _ _ _ _ _
  · obtain ⟨y, _, rfl⟩ := List.mem_map.1 h
    exact Mem.cl_ids _ _
def Inv (K : Int) (kb ob b1 b2 : Nat) (a : Option Addr) (n c : Nat) (l : List (List UInt8)) (w : World) (pre : List Nat) (W : World) : Prop :=
  ∃ v L, M (fun _ => False) w W (its K kb ob b1 b2 a n c v L) ∧ L.map (·.u) = pre.map (ck l)
theorem inv_own {K : Int} {kb ob b1 b2 : Nat} {a : Option Addr} {n c : Nat} {l : List (List UInt8)} {w : World} {B : Nat} (hB : w.heap.size ≤ B) : OwnFrom B (Inv K kb ob b1 b2 a n c l w) := by
  rintro pre W W' row ⟨v, L, hM, hL⟩ hg hr
  exact ⟨v, L, hM.turned (Mem.Cl.of hM its_cl) hg (fun r e => ⟨Nat.le_trans hB (hr r e).1, (hr r e).2⟩), hL⟩
theorem keeps_of {W W' : World} {S : Nat → Prop} (h : Keep S W W') (hS : ∀ k, S k → ∃ o : Obj, W.heap[k]? = some o ∧ o.isCells = true) (B : Nat) : KeepsFrom B W W' := by
  refine ⟨h.size, fun k o _ hk ho => h.get hk (fun e => ?_)⟩
  obtain ⟨o', ho', hc⟩ := hS k e
  rw [hk] at ho'
  cases ho'
  rw [ho] at hc
  cases hc
set_option maxRecDepth 100000 in
set_option maxHeartbeats 4000000 in
theorem cut_no (w : World) (K : Int) (a : Option Addr) (n c : Nat) (l : List (List UInt8)) (hK : knd K ≠ 1) :
    Calls Try.prog 5 #[.int .i64 K, .slice a n c] w (CutPost K l w) := by
  have hk : (knd K == 1) = false := by rw [beq_eq_false_iff_ne]; exact hK
  have HK : Hid _ := hK
  clear hK
  go_enter Try.func5, Try.ntmps5
  go_wp2_with (first | (go_at_call 11; refine (has_any _ K).mono ?_; rintro e w1 ⟨rfl, rfl⟩))
  go_ret
  refine ⟨.slice none 0 0, [], rfl, ?_, by unfold cutL; rw [if_neg HK.out]; rfl⟩
  exact ((Mem.M.start (fun _ => False) w).calm (w' := _) ((Keep.refl _ _).alloc _)).nilR _ _ _
set_option maxHeartbeats 4000000 in
theorem cut_yes (w : World) (K : Int) (a : Option Addr) (n c : Nat) (l : List (List UInt8)) (hK : knd K = 1) (h : At w a n l) (hn : n ≤ 100) (hnc : n ≤ c) :
    Calls Try.prog 5 #[.int .i64 K, .slice a n c] w (CutPost K l w) := by
  have HA : Hid _ := h
  have HK : Hid _ := hK
  obtain ⟨b, hb⟩ : ∃ b, w.heap.size = b := ⟨_, rfl⟩
  have HM : Hid (M (fun _ => False) w w []) := Mem.M.start _ _
  clear h
  refine (callsIn_wide (n := 10)).1 ?_
  refine callsIn_of_wp_marks Try.func5 rfl trivial ?_ rfl
  simp only [Try.ntmps5, List.size_toArray, List.length_cons, List.length_nil, Nat.reduceAdd, Nat.reduceSub, Array.replicate_succ, Array.replicate_zero, List.push_toArray, List.append_toArray, List.nil_append, List.cons_append]
  refine wpIn_wide.2 ?_
  go_wp2_with (first | (go_at_call 11; refine (has_any _ K).mono ?_; rw [HK.out]; rintro e w1 ⟨rfl, rfl⟩) | (go_at_call 12; refine (chunk_any _ a n c).mono ?_; rintro e w1 ⟨rfl, rfl⟩))
  have hM0 := ((((Mem.M.start (fun _ => False) w).alloc (.cells #[.int .i64 K] 3) hb).alloc (.cells #[.slice none 0 0] 24) (b := b + 1) (by simp [hb])).alloc (.cells #[.slice a n c] 22) (b := b + 1 + 1) (by simp [hb])).alloc (.cells #[.int .i64 16] 3) (b := b + 1 + 1 + 1) (by simp [hb])
  obtain ⟨W0, hW0⟩ : ∃ W0, (((w.alloc (.cells #[.int .i64 K] 3)).alloc (.cells #[.slice none 0 0] 24)).alloc (.cells #[.slice a n c] 22)).alloc (.cells #[.int .i64 16] 3) = W0 := ⟨_, rfl⟩
  rw [hW0] at hM0 ⊢
  have hs0 : W0.heap.size = b + 1 + 1 + 1 + 1 := by rw [← hW0]; simp [hb]
  have c1 := hM0.cell 2 rfl 0 (v := .slice a n c) rfl
  have c2 := hM0.cell 3 rfl 0 (v := .int .i64 16) rfl
  have h0 : Inv K b (b + 1) (b + 1 + 1) (b + 1 + 1 + 1) a n c l w [] W0 := ⟨.slice none 0 0, [], hM0.nilR _ _ _, rfl⟩
  have ha : n = 0 ∨ ∃ g o, a = some ⟨g, o, none⟩ := HA.out.lay.imp id (fun ⟨g, o, e, _⟩ => ⟨g, o, e⟩)
  clear hM0
  refine (wpIn_wide (n := 9)).1 ?_
  refine wpIn_rangeFunc_ownG (F := Fence.wide) rfl (by omega) (gf := 30) (lb := #[.pointer (some ⟨b + 1 + 1, 0, none⟩), .pointer (some ⟨b + 1 + 1 + 1, 0, none⟩)]) rfl trivial (enters_of Try.func30 (by kernel_rfl) rfl)
    (chunk_stops (b + 1 + 1) (b + 1 + 1 + 1) a n c W0 (by omega) (by omega) c1 c2 hnc hn ha) Kc.trans (fun W l o o' hl _ _ _ => ⟨World.putObj_heap_other (by omega), World.putObj_heap_other (by omega)⟩) (Below.refl _ _) (fun _ => rfl)
    (Inv K b (b + 1) (b + 1 + 1) (b + 1 + 1 + 1) a n c l w) (fun _ _ _ => False) (inv_own (by omega)) (fun _ _ _ _ _ hs _ _ => hs) h0
    (fun k => { tmps := #[.int .i64 K, .slice a n c, .pointer (some ⟨b, 0, none⟩), undef, .slice none 0 0, .pointer (some ⟨b + 1, 0, none⟩), pc a n k, .int .i64 K, .int .i64 1, .bool false, .slice a n c, .func (.func 30) #[] #[.pointer (some ⟨b + 1 + 1, 0, none⟩), .pointer (some ⟨b + 1 + 1 + 1, 0, none⟩)], pc a n k, undef, undef, undef, undef, undef, undef, undef, undef], defers := [] }) ?assign ?body ?done ?stop
  case assign =>
    intro l x W K hK
    gi_wp2
    exact hK
  case stop =>
    rintro D c pre W _ _ h _
    exact h.elim
  case done =>
    rintro D ys W hD rfl ⟨v, L, hM, hL⟩ hK
    have HI : Hid _ := hM
    have HL : Hid _ := hL
    have hc := hM.cell 1 rfl 0 (v := v) rfl
    clear hM hL
    refine ‹∀ (a : Act) (w : World), Code.wp _ _ _ a w → _› _ _ ?_
    go_wp2
    refine ⟨by simp, .inl ⟨_, _, rfl, run_takeDeferred hK, ?_⟩⟩
    refine ⟨_, results_tmp rfl _ _ _, v, L, rfl, ?_, ?_⟩
    · exact (HI.out.turned (Mem.Cl.of HI.out its_cl) (grownBy_putObj' W D _) (fun r e => by cases e; exact ⟨by omega, _, hK, rfl⟩)).dropN 4
    · unfold cutL chunks
      rw [if_pos HK.out, HA.out.len]
      exact HL.out
  case body =>
    rintro lp pre k W ⟨v, L, hM, hL⟩ hlt
    have HI : Hid _ := hM.drew
    have HL : Hid _ := hL
    have HA2 : Hid _ := at_ck (HA.out.calm hM.drew.keep) k
    have hpl : L.length ≤ 100 := by
      have := congrArg List.length hL
      rw [List.length_map, List.length_map] at this
      omega
    have d1 := hM.drew.cell 0 rfl 0 (v := .int .i64 K) rfl
    have d2 := hM.drew.cell 1 rfl 0 (v := v) rfl
    have HS : Hid (∀ j, (j = b + 1 ∨ v.ownBlock = some j) → ∃ o : Obj, W.heap[j]? = some o ∧ o.isCells = true) := by
      rintro j (rfl | h)
      · exact ⟨_, hM.get 1 rfl, rfl⟩
      · exact Mem.Cl.of hM its_cl 4 _ rfl j h
    have HB1 : Hid (W.heap[b + 1 + 1]? = _) := hM.get 2 rfl
    have HB2 : Hid (W.heap[b + 1 + 1 + 1]? = _) := hM.get 3 rfl
    refine wpIn_block ?_
    refine Txt.wp_region_round1 (fun w' => w'.cell? ⟨b, 0, none⟩ = some (.int .i64 K) ∧ w'.cell? ⟨b + 1, 0, none⟩ = some v) [2, 2, 0, 4, 0, 3, 4, 4] (by kernel_rfl) (by kernel_rfl) (by kernel_rfl) (fun ⟨a, w, h⟩ => h) ⟨d1, d2⟩ ?_
    clear hM hL
    simp only [List.dropLast]
    refine Txt.tl_loadS (v := v) (by rfl) (by rfl) (by rfl) (by kernel_rfl) (fun _ h => h.2) ?_
    simp only [Act.put, List.setIfInBounds_toArray, List.set_cons_zero, List.set_cons_succ]
    refine Txt.tl_loadS (v := .int .i64 K) (by rfl) (by rfl) (by rfl) (by kernel_rfl) (fun _ h => h.1) ?_
    simp only [Act.put, List.setIfInBounds_toArray, List.set_cons_zero, List.set_cons_succ]
    (repeat (first | (refine Txt.tl_pure (v := ?_) (by rfl) ?_ ?_; rotate_left; (focus (intro _; go_simp; try with_reducible rfl)); simp only [Act.put, List.setIfInBounds_toArray, List.set_cons_zero, List.set_cons_succ]) | (refine Txt.tl_load (v := ?_) (by rfl) (by rfl) (by rfl) (by kernel_rfl) ?_ ?_; rotate_left; (focus assumption); simp only [Act.put, List.setIfInBounds_toArray, List.set_cons_zero, List.set_cons_succ]) | (refine Txt.tl_loadS (v := ?_) (by rfl) (by rfl) (by rfl) (by kernel_rfl) ?_ ?_; rotate_left; (focus (exact fun _ h => h)); simp only [Act.put, List.setIfInBounds_toArray, List.set_cons_zero, List.set_cons_succ])))
    refine Txt.tl_call Try.func13 (by kernel_rfl) (by kernel_rfl) (by rfl) (by rfl) (by rfl) (clone_any _ (adv a (16 * k)) (min 16 (n - 16 * k)) (min 16 (n - 16 * k)) (ck l k) HA2.out (by omega)) ?_
    rintro e w2 ⟨va, rfl, o2, k2, f2⟩
    obtain ⟨xa, xc, rfl, hxa, hxb⟩ := o2.at
    have HI : Hid _ := HI.out.add (x := idG ⟨xa, (ck l k).length, xc, ck l k⟩) k2 o2 (fun k hk => ⟨f2 k hk, o2.lt hk⟩)
    have HKp : Hid _ := (Keep.refl (fun j => j = b + 1 ∨ v.ownBlock = some j) W).drew.trans' k2 (fun _ _ h => h) (fun _ _ h => h.elim)
    have e1 := HI.out.cell 0 rfl 0 (v := .int .i64 K) rfl
    have e2 := HI.out.cell 1 rfl 0 (v := v) rfl
    clear k2 f2 o2 hxa hxb d1 d2
    refine ⟨_, rfl, ⟨e1, e2⟩, ?_⟩
    simp only [Act.put, List.setIfInBounds_toArray, List.set_cons_zero, List.set_cons_succ]
    (repeat (first | (refine Txt.tl_pure (v := ?_) (by rfl) ?_ ?_; rotate_left; (focus (intro _; go_simp; try with_reducible rfl)); simp only [Act.put, List.setIfInBounds_toArray, List.set_cons_zero, List.set_cons_succ]) | (refine Txt.tl_load (v := ?_) (by rfl) (by rfl) (by rfl) (by kernel_rfl) ?_ ?_; rotate_left; (focus assumption); simp only [Act.put, List.setIfInBounds_toArray, List.set_cons_zero, List.set_cons_succ]) | (refine Txt.tl_loadS (v := ?_) (by rfl) (by rfl) (by rfl) (by kernel_rfl) ?_ ?_; rotate_left; (focus (exact fun _ h => h)); simp only [Act.put, List.setIfInBounds_toArray, List.set_cons_zero, List.set_cons_succ])))
    refine Txt.tl_alloc (by rfl) ?_
    refine St.wp_build slG (by decide) rfl (cs := encG K ⟨xa, (ck l k).length, xc, ck l k⟩) rfl rfl ?_
    have HI : Hid _ := HI.out.calm ((Keep.refl _ _).alloc (.cells (encG K ⟨xa, (ck l k).length, xc, ck l k⟩).toArray 28))
    refine ⟨⟨Txt.Le.alloc _ _, HI.out.cell 0 rfl 0 rfl, HI.out.cell 1 rfl 0 rfl⟩, ?_⟩
    simp only [Act.put, List.setIfInBounds_toArray, List.set_cons_zero, List.set_cons_succ]
    (repeat (first | (refine Txt.tl_pure (v := ?_) (by rfl) ?_ ?_; rotate_left; (focus (intro _; go_simp; try with_reducible rfl)); simp only [Act.put, List.setIfInBounds_toArray, List.set_cons_zero, List.set_cons_succ]) | (refine Txt.tl_load (v := ?_) (by rfl) (by rfl) (by rfl) (by kernel_rfl) ?_ ?_; rotate_left; (focus assumption); simp only [Act.put, List.setIfInBounds_toArray, List.set_cons_zero, List.set_cons_succ]) | (refine Txt.tl_loadS (v := ?_) (by rfl) (by rfl) (by rfl) (by kernel_rfl) ?_ ?_; rotate_left; (focus (exact fun _ h => h)); simp only [Act.put, List.setIfInBounds_toArray, List.set_cons_zero, List.set_cons_succ])))
    refine Txt.tl_loud (by rfl) ?_
    refine St.wp_app1 slG (by decide) rfl rfl (HI.out.get 4 rfl) rfl (y := ⟨xa, (ck l k).length, xc, ck l k⟩) rfl ((G_enc K).all _) (heap_alloc_new w2 _) (by omega) ?_
    intro v6 w6 h6 k6 g6
    obtain ⟨a6, c6, rfl, _⟩ := h6.at
    have HI : Hid _ := HI.out.appR 4 rfl h6 k6 g6
    have HKp : Hid _ := (HKp.out.alloc (.cells (encG K ⟨xa, (ck l k).length, xc, ck l k⟩).toArray 28)).trans' k6 (fun _ _ h => h) (fun _ _ h => .inr h)
    clear h6 k6 g6 e1 e2
    refine ⟨⟨HI.out.cell 0 rfl 0 rfl, HI.out.cell 1 rfl 0 rfl⟩, ?_⟩
    simp only [Act.put, List.setIfInBounds_toArray, List.set_cons_zero, List.set_cons_succ]
    (repeat (first | (refine Txt.tl_pure (v := ?_) (by rfl) ?_ ?_; rotate_left; (focus (intro _; go_simp; try with_reducible rfl)); simp only [Act.put, List.setIfInBounds_toArray, List.set_cons_zero, List.set_cons_succ]) | (refine Txt.tl_load (v := ?_) (by rfl) (by rfl) (by rfl) (by kernel_rfl) ?_ ?_; rotate_left; (focus assumption); simp only [Act.put, List.setIfInBounds_toArray, List.set_cons_zero, List.set_cons_succ]) | (refine Txt.tl_loadS (v := ?_) (by rfl) (by rfl) (by rfl) (by kernel_rfl) ?_ ?_; rotate_left; (focus (exact fun _ h => h)); simp only [Act.put, List.setIfInBounds_toArray, List.set_cons_zero, List.set_cons_succ])))
    refine Txt.tl_nil ?_
    refine Txt.tl_last (by rfl) (by rfl) ?_
    have f1 := HI.out.free 1 rfl 0
    have d1 := HI.out.cell 1 rfl 0 (v := v) rfl
    go_simp
    have HF : Hid _ := HI.out.setc 1 rfl 0 (.slice a6 (L.length + 1) c6)
    have HKp : Hid _ := Keep.setCell HKp.out ⟨b + 1, 0, none⟩ (.slice a6 (L.length + 1) c6) (fun _ => .inl rfl)
    refine ⟨keeps_of HKp.out HS.out _, ⟨(HF.out.get 2 rfl).trans HB1.out.symm, (HF.out.get 3 rfl).trans HB2.out.symm⟩, .slice a6 (L.length + 1) c6, L ++ [⟨xa, (ck l k).length, xc, ck l k⟩], ?_, by rw [List.map_append, List.map_append, HL.out]; rfl⟩
    have hF := HF.out
    rw [List.length_append] at hF
    unfold its at hF ⊢
    rw [List.map_append]
    exact hF
theorem cut_any (w : World) (K : Int) (a : Option Addr) (n c : Nat) (l : List (List UInt8)) (h : At w a n l) (hn : n ≤ 100) (hnc : n ≤ c) :
    Calls Try.prog 5 #[.int .i64 K, .slice a n c] w (CutPost K l w) := by
  by_cases hK : knd K = 1
  · exact cut_yes w K a n c l hK h hn hnc
  · exact cut_no w K a n c l hK
end Mc
end Go.Proofs.Ythllhjdaknmlbaa
