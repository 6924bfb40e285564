/-
  petrellaw24.awake.
-/
import Derived.Test.YtgpimeobkacniaaMuZ
import Derived.Test.YtgpimeobkacniaaSqA
set_option linter.unusedVariables false
set_option linter.unusedSimpArgs false
namespace Go.Proofs.Ytgpimeobkacniaa
open Go.RowKit
namespace Mu
open Oct Ids Mp
open Mem (M It blk ids rows)
open Sq (own_idat wl_buildL u1 u2 bu1 bu2 widen two)
section
variable {ops : Array Oper} {rest : List Oper} {o : Oper} {a : Act} {w : World} {Q : Exit → Act → World → Prop}
/-- '[]api.Id{x, y}'. -/
theorem run_build2 (w : World) (x y : List UInt8) (hx : x.length = 32) (hy : y.length = 32) : (Instr.buildSlice 29 2 #[(0, idv x), (1, idv y)]).run Try.prog w = .ok (.slice (some ⟨w.heap.size, 0, none⟩) 2 2) (w.alloc (.cells ([x, y].flatten.map bv).toArray 35)) := by
  obtain ⟨i, hi, hz', hs, _⟩ := slId.info
  have hf := Great.fill_whole (s := 32) (by omega) [idv x, idv y] ((Array.range (2 * i.size)).map ((Value.agg z32).cells[· % (Value.agg z32).cells.size]!)) (by intro v hv; simp only [List.mem_cons, List.not_mem_nil, or_false] at hv; rcases hv with rfl | rfl <;> (show (List.map bv _).toArray.size = 32; simp [hx, hy])) (by simp [hs])
  have e : ([idv x, idv y].flatMap fun v => v.cells.toList).toArray = ([x, y].flatten.map bv).toArray := by simp [idv, Value.cells]
  rw [e] at hf
  refine run_buildSlice (P := Try.prog) w _ 35 2 _ _ i (.agg z32) Try.underlying29 hi hz' (by rw [hs]; decide) (by rw [hs]; decide) ?_
  rw [hs] at hf ⊢
  exact hf
theorem wl_build2 (hgd : o.guard = none) {p q : Operand} (ho : o.op = .buildSlice 29 2 #[(0, p), (1, q)]) {x y : List UInt8} (hx : x.length = 32) (hy : y.length = 32) (hp : a.eval p = idv x) (hq : a.eval q = idv y)
    (h : ∀ w', Own w' (.slice (some ⟨w.heap.size, 0, none⟩) 2 2) [x, y] → Keep (fun _ => False) w w' → (∀ k, w.heap.size = k → w.heap.size ≤ k ∧ k < w'.heap.size) → wpList Try.prog ops Q rest (a.put o.dst (.slice (some ⟨w.heap.size, 0, none⟩) 2 2)) w') : wpList Try.prog ops Q (o :: rest) a w :=
  wpList_plain hgd fun K hK => by
    unfold Oper.wp execOp
    simp only [ho, Sem.run_bind, List.map_toArray, List.map_cons, List.map_nil, hp, hq, run_build2 w x y hx hy, Result.andThen_ok]
    refine hK _ _ (h _ (Own.of rfl ?_ (heap_alloc_new w _) (Nat.le_refl _) (by unfold maxLen; omega) ?_ ?_) ((Keep.refl _ _).alloc _) (fun k hk => ⟨by omega, by rw [World.size_alloc]; omega⟩))
    · intro u hu
      simp only [List.mem_cons, List.not_mem_nil, or_false] at hu
      rcases hu with rfl | rfl <;> assumption
    · simp [hx, hy]
    · rw [List.take_of_length_le]
      simp [hx, hy]
end
def u3 : List UInt8 := 3 :: List.replicate 31 0
def y1 : Wr := ⟨u1, rfl, ⟨#[107]⟩, ⟨#[97]⟩⟩
def y2 : Wr := ⟨u2, rfl, ⟨#[107]⟩, ⟨#[98]⟩⟩
def y3 : Wr := ⟨u3, rfl, ⟨#[107]⟩, ⟨#[99]⟩⟩
theorem bu3 : Try.prog.built 35 [(0, .int .u8 3)] = some (u3.map bv).toArray := by kernel_rfl
theorem ltP_asym (a b : Pr) (h : ltP a b) : ¬ ltP b a := fun h' => ltP_irr a (ltP_trans h h')
/-- A writing that nobody had overwritten. -/
structure S1Post (w : World) (b bl bo : Nat) (L : List Wr) (O : List Wd) (x : Wr) (ov : List Wd) (e : Ending) (w' : World) : Prop where
  ret : e = .returned (.int .i64 0)
  ok : ∃ L', L'.Nodup ∧ (∀ y, y ∈ L' ↔ (y ∈ L ∨ y = x) ∧ y.u ∉ addGs O ov) ∧ MTo w w' b bl bo L' (addGs O ov)
theorem mset_ok (w : World) (b bl bo : Nat) (L : List Wr) (O : List Wd) (h : MuAt w b bl bo L O) (hn : L.Nodup) (hL : L.length ≤ 900) (x : Wr) (hx : cdW x = 0) (hk : x.k.size ≤ maxLen) (hv : x.v.size ≤ maxLen) (oa : Option Addr) (n oc : Nat) (ov : List Wd) (ha : At w oa n ov) (hd : ∀ g o, oa = some ⟨g, o, none⟩ → n ≠ 0 → ¬ mfoot b bl bo g) :
    Calls Try.prog 26 #[.pointer (some ⟨b, 0, none⟩), idv x.u, .string x.k, .string x.v, .slice oa n oc] w (S1Post w b bl bo L O x ov) :=
  (mset_any w b bl bo L O h hn hL x hk hv oa n oc ov ha hd).mono fun e w' ⟨h1, _, h3⟩ => ⟨by rw [h1, hx], h3 hx⟩
theorem sml {x : ByteArray} (h : x.size ≤ 16) : x.size ≤ maxLen := by unfold maxLen; omega
theorem at_none (w : World) : At w none 0 [] := ⟨rfl, by simp, Nat.zero_le _, .inl rfl⟩
/-- Get, where the list is known. -/
theorem mget_len (w : World) (b bl bo : Nat) (L : List Wr) (O : List Wd) (h : MuAt w b bl bo L O) (hn : L.Nodup) (hL : L.length ≤ 1000) (key : ByteArray) (l : List Pr) (hl : l.Pairwise ltP) (hm : ∀ p, p ∈ l ↔ ∃ x ∈ L, kv x = p) (n : Nat) (hk : (getL l key).length = n) :
    Calls Try.prog 28 #[.pointer (some ⟨b, 0, none⟩), .string key] w fun e w' => ∃ a c, e = .returned (.slice a n c) ∧ MTo w w' b bl bo L O :=
  (mget_any w b bl bo L O h hn hL key).mono fun e w' ⟨v, l', he, hM, h1, h2, _⟩ => by
    obtain rfl : l' = l := Sq.pw_unique ltP_asym l' l h1 hl (fun p => by rw [h2, hm])
    obtain ⟨a, c, ev, _⟩ := (show St.Own 9 1 es1 w' v _ from hM.get 1 rfl).any
    rw [hk] at ev
    exact ⟨a, c, by rw [he, ev], ⟨hM.get 0 rfl, hM.keep⟩⟩
def k107 : ByteArray := ⟨#[107]⟩
theorem get_2 : (getL [kv y1, kv y2] k107).length = 2 := by decide +kernel
theorem get_1 : (getL [kv y3] k107).length = 1 := by decide +kernel
theorem pw_2 : [kv y1, kv y2].Pairwise ltP := by
  refine List.Pairwise.cons (fun p hp => ?_) (List.pairwise_singleton _ _)
  obtain rfl := List.mem_singleton.1 hp
  exact .inr ⟨rfl, by decide +kernel⟩
set_option maxRecDepth 100000 in
set_option maxHeartbeats 4000000 in
theorem awakeM (w : World) : Calls Try.prog 21 #[] w fun e w' => e = .returned (.bool true) ∧ Keep (fun _ => False) w w' := by
  have HM : Hid (M (fun _ => False) w w []) := M.start _ w
  go_enter Try.func21, Try.ntmps21
  go_wp2_with (first | (go_at_call 22; refine (mnew _).mono ?_; rintro e w1 ⟨b, bl, bo, rfl, m1⟩; have HM : Hid _ := m1; clear m1) | (refine wl_buildL rfl rfl [(0, .int .u8 1)] rfl (cs := (u1.map bv).toArray) bu1 ?_; simp only [Act.put, List.setIfInBounds_toArray, List.set_cons_zero, List.set_cons_succ]) | (refine wl_buildL rfl rfl [(0, .int .u8 2)] rfl (cs := (u2.map bv).toArray) bu2 ?_; simp only [Act.put, List.setIfInBounds_toArray, List.set_cons_zero, List.set_cons_succ]) | (refine wl_buildL rfl rfl [(0, .int .u8 3)] rfl (cs := (u3.map bv).toArray) bu3 ?_; simp only [Act.put, List.setIfInBounds_toArray, List.set_cons_zero, List.set_cons_succ]) | (refine wl_build2 rfl rfl (x := u1) (y := u2) rfl rfl rfl rfl ?_; intro w8 o8 k8 f8; have HM : Hid _ := HM.out.add (x := ids _ [u1, u2]) k8 o8 (fun k hk => f8 k (by cases hk; rfl)); clear o8 k8 f8; simp only [Act.put, List.setIfInBounds_toArray, List.set_cons_zero, List.set_cons_succ]) | (go_at_call_has 26 (Value.string ⟨#[97]⟩); refine (mset_ok _ b bl bo [] [] (HM.out.get 0 rfl) List.nodup_nil (by simp) y1 rfl (sml (by decide)) (sml (by decide)) none 0 0 [] (at_none _) (fun _ _ h _ => by cases h)).mono ?_; rintro e w2 ⟨rfl, L1, n1, mm1, t1⟩; have HM : Hid _ := M.mto HM.out 0 rfl t1; have HN1 : Hid (L1.Nodup) := n1; have HM1 : Hid (∀ y, y ∈ L1 ↔ y = y1) := (fun y => by rw [mm1]; simp [addGs]); clear n1 mm1 t1; have HL1 : Hid (L1.length ≤ 1) := nodup_len (U := [y1]) HN1.out (fun y hy => List.mem_singleton.2 ((HM1.out y).1 hy))) | (go_at_call_has 26 (Value.string ⟨#[98]⟩); refine (mset_ok _ b bl bo L1 [] (HM.out.get 0 rfl) HN1.out (by have := HL1.out; omega) y2 rfl (sml (by decide)) (sml (by decide)) none 0 0 [] (at_none _) (fun _ _ h _ => by cases h)).mono ?_; rintro e w3 ⟨rfl, L2, n2, mm2, t2⟩; have HM : Hid _ := M.mto HM.out 0 rfl t2; have HN2 : Hid (L2.Nodup) := n2; have HM2 : Hid (∀ y, y ∈ L2 ↔ y = y1 ∨ y = y2) := (fun y => by rw [mm2, HM1.out]; simp [addGs]); clear n2 mm2 t2; have HL2 : Hid (L2.length ≤ 2) := nodup_len (U := [y1, y2]) HN2.out (fun y hy => by simpa using (HM2.out y).1 hy)) | (go_at_call_has 26 (Value.string ⟨#[99]⟩); refine (mset_ok _ b bl bo L2 [] (HM.out.get 0 rfl) HN2.out (by have := HL2.out; omega) y3 rfl (sml (by decide)) (sml (by decide)) _ 2 2 [u1, u2] (own_idat (HM.out.get 1 rfl)) (fun g o h _ => by cases h; exact fun hf => HM.out.dis 0 1 _ _ rfl rfl (by decide) _ hf rfl)).mono ?_; rintro e w5 ⟨rfl, L3, n3, mm3, t3⟩; have HM : Hid _ := M.mto HM.out 0 rfl t3; have HN3 : Hid (L3.Nodup) := n3; have HM3 : Hid (∀ y, y ∈ L3 ↔ y = y3) := (fun y => by rw [mm3, HM2.out]; constructor; (rintro ⟨(rfl | rfl) | rfl, h2⟩; (exact absurd (by decide) h2); (exact absurd (by decide) h2); rfl); (rintro rfl; exact ⟨.inr rfl, by decide⟩)); clear n3 mm3 t3; have HL3 : Hid (L3.length ≤ 1) := nodup_len (U := [y3]) HN3.out (fun y hy => List.mem_singleton.2 ((HM3.out y).1 hy))) | ((have q := HM3.out); go_at_call 28; refine (mget_len _ b bl bo L3 _ (HM.out.get 0 rfl) HN3.out (by have := HL3.out; omega) k107 [kv y3] (List.pairwise_singleton _ _) (fun p => by rw [List.mem_singleton]; exact ⟨fun h => ⟨y3, (HM3.out y3).2 rfl, h.symm⟩, fun ⟨x, h1, h2⟩ => by rw [(HM3.out x).1 h1] at h2; exact h2.symm⟩) 1 get_1).mono ?_; rintro e w6 ⟨a6, c6, rfl, t6⟩; have HM : Hid _ := M.mto HM.out 0 rfl t6; clear t6 q) | (go_at_call 28; refine (mget_len _ b bl bo L2 _ (HM.out.get 0 rfl) HN2.out (by have := HL2.out; omega) k107 [kv y1, kv y2] pw_2 (fun p => by simp only [List.mem_cons, List.not_mem_nil, or_false]; exact ⟨fun h => by rcases h with rfl | rfl; (exact ⟨y1, (HM2.out y1).2 (.inl rfl), rfl⟩); (exact ⟨y2, (HM2.out y2).2 (.inr rfl), rfl⟩), fun ⟨x, h1, h2⟩ => by rcases (HM2.out x).1 h1 with rfl | rfl; (exact .inl h2.symm); (exact .inr h2.symm)⟩) 2 get_2).mono ?_; rintro e w4 ⟨a4, c4, rfl, t4⟩; have HM : Hid _ := M.mto HM.out 0 rfl t4; clear t4))
  go_ret
  exact ⟨rfl, HM.out.keep⟩
end Mu
end Go.Proofs.Ytgpimeobkacniaa
