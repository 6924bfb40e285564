/-
  multi: one that nobody made. petrellaw24.awake. Chapter 24: the writings as they came in; much, set. Chapter 24: petrelref24.Texts and petrelref22.Pairs of two lists that are one. Chapter 24, plain: what is overwritten.
-/
import Derived.Test.YtgpimeobkacniaaGMb
import Derived.Test.YtgpimeobkacniaaSqA
import Derived.Test.YtgpimeobkacniaaOpnU
import Derived.Test.YtgpimeobkacniaaDrw
set_option linter.unusedVariables false
set_option linter.unusedSimpArgs false

namespace Go.Proofs.Ytgpimeobkacniaa
open Go.RowKit
namespace Mu
open Oct Ids Mp
open Mem (M It blk ids rows)
open Sq (own_idat)
/-- One that nobody made, its block known. -/
def Zb (w : World) (p : Value) : Prop := p = .pointer none ∨ ∃ b, p = .pointer (some ⟨b, 0, none⟩) ∧ w.heap[b]? = some (.cells #[.map none, .map none] 75 (0, 0))
theorem Zb.zp {w : World} {p : Value} (h : Zb w p) : Zm w p := by
  rcases h with h | ⟨b, h, c⟩
  · exact .inl h
  · exact .inr ⟨b, h, by rw [cell_of c]; rfl⟩
theorem Zb.calm {w w' : World} {p : Value} (h : Zb w p) (k : Keep (fun _ => False) w w') : Zb w' p := by
  rcases h with h | ⟨b, h, c⟩
  · exact .inl h
  · exact .inr ⟨b, h, k.get c (fun h => h)⟩
section
variable (w : World) (p : Value) (h : Zb w p)
include h
set_option maxRecDepth 100000 in
theorem zmput : Calls Try.prog 35 #[p] w fun e w' => e = .returned (.string ByteArray.empty) ∧ w' = w := by
  have HZ : Hid (Zm w p) := h.zp
  clear h
  go_enter Try.func35, Try.ntmps35
  go_wp2_with (go_at_call 58; refine (zmnone _ p HZ.out).mono ?_; rintro e w1 ⟨rfl, h1⟩; replace h1 := h1.symm; subst h1)
  go_ret
  exact ⟨rfl, rfl⟩
set_option maxRecDepth 100000 in
theorem zmsorted : Calls Try.prog 56 #[p] w fun e w' => e = .returned (.slice none 0 0) ∧ w' = w := by
  have HZ : Hid (Zm w p) := h.zp
  clear h
  go_enter Try.func56, Try.ntmps56
  go_wp2_with (go_at_call 58; refine (zmnone _ p HZ.out).mono ?_; rintro e w1 ⟨rfl, h1⟩; replace h1 := h1.symm; subst h1)
  go_ret
  exact ⟨rfl, rfl⟩
set_option maxRecDepth 100000 in
theorem zmset (u : List UInt8) (k v : ByteArray) (o : Value) : Calls Try.prog 26 #[p, idv u, .string k, .string v, o] w fun e w' => e = .returned (.int .i64 8) ∧ Keep (fun _ => False) w w' := by
  have KW : Hid (Keep (fun _ => False) w _) := (Keep.refl (fun _ => False) w).alloc (.cells (u.map bv).toArray 35)
  have HZ : Hid (Zm _ p) := (h.calm KW.out).zp
  clear h
  go_enter Try.func26, Try.ntmps26
  go_wp2_with (go_at_call 58; refine (zmnone _ p HZ.out).mono ?_; rintro e w1 ⟨rfl, h1⟩; replace h1 := h1.symm; subst h1)
  go_ret
  exact ⟨rfl, KW.out⟩
set_option maxRecDepth 100000 in
theorem zmlist : Calls Try.prog 32 #[p] w fun e w' => e = .returned (.slice none 0 0) ∧ Keep (fun _ => False) w w' := by
  have HO : Hid (Calls Try.prog 56 #[p] w fun e w' => e = .returned (.slice none 0 0) ∧ w' = w) := zmsorted w p h
  have HN : Hid (OwnP w (.slice none 0 0) []) := (M.nilR (M.start (fun _ => False) w) 92 2 pr).get 0 rfl
  clear h
  go_enter Try.func32, Try.ntmps32
  go_wp2_with (go_at_call 56; refine HO.out.mono ?_; rintro e w1 ⟨rfl, h1⟩; replace h1 := h1.symm; subst h1)
  refine wp_loop_rounds 1 ?_
  rw [rounds_succ]
  go_wp2_with (first | (go_at_call 61; refine (sortP_any _ (.slice none 0 0) [] HN.out (by simp)).mono ?_; rintro e w5 ⟨rfl, es, _, _, _, _, k5⟩; have KW : Hid (Keep (fun _ => False) w w5) := k5.mono (fun _ _ h => by cases h); clear k5) | (go_at_call 65; refine (compactP_nil _).mono ?_; rintro e w6 ⟨rfl, h6⟩; replace h6 := h6.symm; subst h6))
  go_ret
  exact ⟨rfl, KW.out⟩
set_option maxRecDepth 100000 in
theorem zmget (key : ByteArray) : Calls Try.prog 28 #[p, .string key] w fun e w' => e = .returned (.slice none 0 0) ∧ Keep (fun _ => False) w w' := by
  have HO : Hid (Calls Try.prog 32 #[p] w fun e w' => e = .returned (.slice none 0 0) ∧ Keep (fun _ => False) w w') := zmlist w p h
  clear h
  go_enter Try.func28, Try.ntmps28
  go_wp2_with (go_at_call 32; refine HO.out.mono ?_; rintro e w1 ⟨rfl, k1⟩; have KW : Hid (Keep (fun _ => False) w w1) := k1; clear k1)
  refine wp_loop_rounds 1 ?_
  rw [rounds_succ]
  go_wp2
  go_ret
  exact ⟨rfl, KW.out⟩
set_option maxRecDepth 100000 in
theorem zmids (key : ByteArray) : Calls Try.prog 25 #[p, .string key] w fun e w' => ∃ a c, e = .returned (.slice a 0 c) ∧ Keep (fun _ => False) w w' := by
  have HO : Hid (Calls Try.prog 56 #[p] w fun e w' => e = .returned (.slice none 0 0) ∧ w' = w) := zmsorted w p h
  clear h
  go_enter Try.func25, Try.ntmps25
  go_wp2_with (go_at_call 56; refine HO.out.mono ?_; rintro e w1 ⟨rfl, h1⟩; replace h1 := h1.symm; subst h1)
  refine wp_loop_rounds 1 ?_
  rw [rounds_succ]
  go_wp2_with (first | (go_at_call 57; refine (set_any _ none 0 0 [] ⟨rfl, by simp, Nat.zero_le _, .inl rfl⟩ (by omega)).mono ?_; rintro e w2 ⟨v2, rfl, o2, k2, f2⟩; obtain ⟨va, vc, ev, _⟩ := o2.at; subst ev; have KW : Hid (Keep (fun _ => False) w w2) := k2; clear o2 k2 f2))
  go_ret
  exact ⟨_, _, rfl, KW.out⟩
end
end Mu
end Go.Proofs.Ytgpimeobkacniaa


namespace Go.Proofs.Ytgpimeobkacniaa
open Go.RowKit
namespace Mu
open Oct Ids Mp
open Mem (M It blk ids rows)
open Sq (own_idat wl_buildL u1 u2 bu1 bu2 widen two)
section
variable {ops : Array Oper} {rest : List Oper} {o : Oper} {a : Act} {w : World} {Q : Exit → Act → World → Prop}
/-- '[]api.Id{x, y}'. -/
theorem run_build2 (w : World) (x y : List UInt8) (hx : x.length = 32) (hy : y.length = 32) : (Instr.buildSlice 29 2 #[(0, idv x), (1, idv y)]).run Try.prog w = .ok (.slice (some ⟨w.heap.size, 0, none⟩) 2 2) (w.alloc (.cells ([x, y].flatten.map bv).toArray 35)) := by
  obtain ⟨i, hi, hz', hs, _⟩ := slId.info
  have hf := Great.fill_whole (s := 32) (by omega) [idv x, idv y] ((Array.range (2 * i.size)).map ((Value.agg z32).cells[· % (Value.agg z32).cells.size]!)) (by intro v hv; simp only [List.mem_cons, List.not_mem_nil, or_false] at hv; rcases hv with rfl | rfl <;> (show (List.map bv _).toArray.size = 32; simp [hx, hy])) (by simp [hs])
  have e : ([idv x, idv y].flatMap fun v => v.cells.toList).toArray = ([x, y].flatten.map bv).toArray := by simp [idv, Value.cells]
  rw [e] at hf
  refine run_buildSlice (P := Try.prog) w _ 35 2 _ _ i (.agg z32) Try.underlying29 hi hz' (by rw [hs]; decide) (by rw [hs]; decide) ?_
  rw [hs] at hf ⊢
  exact hf
theorem wl_build2 (hgd : o.guard = none) {p q : Operand} (ho : o.op = .buildSlice 29 2 #[(0, p), (1, q)]) {x y : List UInt8} (hx : x.length = 32) (hy : y.length = 32) (hp : a.eval p = idv x) (hq : a.eval q = idv y)
    (h : ∀ w', Own w' (.slice (some ⟨w.heap.size, 0, none⟩) 2 2) [x, y] → Keep (fun _ => False) w w' → (∀ k, w.heap.size = k → w.heap.size ≤ k ∧ k < w'.heap.size) → wpList Try.prog ops Q rest (a.put o.dst (.slice (some ⟨w.heap.size, 0, none⟩) 2 2)) w') : wpList Try.prog ops Q (o :: rest) a w :=
  wpList_plain hgd fun K hK => by
    unfold Oper.wp execOp
    simp only [ho, Sem.run_bind, List.map_toArray, List.map_cons, List.map_nil, hp, hq, run_build2 w x y hx hy, Result.andThen_ok]
    refine hK _ _ (h _ (Own.of rfl ?_ (heap_alloc_new w _) (Nat.le_refl _) (by unfold maxLen; omega) ?_ ?_) ((Keep.refl _ _).alloc _) (fun k hk => ⟨by omega, by rw [World.size_alloc]; omega⟩))
    · intro u hu
      simp only [List.mem_cons, List.not_mem_nil, or_false] at hu
      rcases hu with rfl | rfl <;> assumption
    · simp [hx, hy]
    · rw [List.take_of_length_le]
      simp [hx, hy]
end
def u3 : List UInt8 := 3 :: List.replicate 31 0
def y1 : Wr := ⟨u1, rfl, ⟨#[107]⟩, ⟨#[97]⟩⟩
def y2 : Wr := ⟨u2, rfl, ⟨#[107]⟩, ⟨#[98]⟩⟩
def y3 : Wr := ⟨u3, rfl, ⟨#[107]⟩, ⟨#[99]⟩⟩
theorem bu3 : Try.prog.built 35 [(0, .int .u8 3)] = some (u3.map bv).toArray := by kernel_rfl
theorem ltP_asym (a b : Pr) (h : ltP a b) : ¬ ltP b a := fun h' => ltP_irr a (ltP_trans h h')
/-- A writing that nobody had overwritten. -/
structure S1Post (w : World) (b bl bo : Nat) (L : List Wr) (O : List Wd) (x : Wr) (ov : List Wd) (e : Ending) (w' : World) : Prop where
  ret : e = .returned (.int .i64 0)
  ok : ∃ L', L'.Nodup ∧ (∀ y, y ∈ L' ↔ (y ∈ L ∨ y = x) ∧ y.u ∉ addGs O ov) ∧ MTo w w' b bl bo L' (addGs O ov)
theorem mset_ok (w : World) (b bl bo : Nat) (L : List Wr) (O : List Wd) (h : MuAt w b bl bo L O) (hn : L.Nodup) (hL : L.length ≤ 900) (x : Wr) (hx : cdW x = 0) (hk : x.k.size ≤ maxLen) (hv : x.v.size ≤ maxLen) (oa : Option Addr) (n oc : Nat) (ov : List Wd) (ha : At w oa n ov) (hd : ∀ g o, oa = some ⟨g, o, none⟩ → n ≠ 0 → ¬ mfoot b bl bo g) :
    Calls Try.prog 26 #[.pointer (some ⟨b, 0, none⟩), idv x.u, .string x.k, .string x.v, .slice oa n oc] w (S1Post w b bl bo L O x ov) :=
  (mset_any w b bl bo L O h hn hL x hk hv oa n oc ov ha hd).mono fun e w' ⟨h1, _, h3⟩ => ⟨by rw [h1, hx], h3 hx⟩
theorem sml {x : ByteArray} (h : x.size ≤ 16) : x.size ≤ maxLen := by unfold maxLen; omega
theorem at_none (w : World) : At w none 0 [] := ⟨rfl, by simp, Nat.zero_le _, .inl rfl⟩
/-- Get, where the list is known. -/
theorem mget_len (w : World) (b bl bo : Nat) (L : List Wr) (O : List Wd) (h : MuAt w b bl bo L O) (hn : L.Nodup) (hL : L.length ≤ 1000) (key : ByteArray) (l : List Pr) (hl : l.Pairwise ltP) (hm : ∀ p, p ∈ l ↔ ∃ x ∈ L, kv x = p) (n : Nat) (hk : (getL l key).length = n) :
    Calls Try.prog 28 #[.pointer (some ⟨b, 0, none⟩), .string key] w fun e w' => ∃ a c, e = .returned (.slice a n c) ∧ MTo w w' b bl bo L O :=
  (mget_any w b bl bo L O h hn hL key).mono fun e w' ⟨v, l', he, hM, h1, h2, _⟩ => by
    obtain rfl : l' = l := Sq.pw_unique ltP_asym l' l h1 hl (fun p => by rw [h2, hm])
    obtain ⟨a, c, ev, _⟩ := (show St.Own 9 1 es1 w' v _ from hM.get 1 rfl).any
    rw [hk] at ev
    exact ⟨a, c, by rw [he, ev], ⟨hM.get 0 rfl, hM.keep⟩⟩
def k107 : ByteArray := ⟨#[107]⟩
theorem get_2 : (getL [kv y1, kv y2] k107).length = 2 := by decide +kernel
theorem get_1 : (getL [kv y3] k107).length = 1 := by decide +kernel
theorem pw_2 : [kv y1, kv y2].Pairwise ltP := by
  refine List.Pairwise.cons (fun p hp => ?_) (List.pairwise_singleton _ _)
  obtain rfl := List.mem_singleton.1 hp
  exact .inr ⟨rfl, by decide +kernel⟩
set_option maxRecDepth 100000 in
set_option maxHeartbeats 4000000 in
theorem awakeM (w : World) : Calls Try.prog 21 #[] w fun e w' => e = .returned (.bool true) ∧ Keep (fun _ => False) w w' := by
  have HM : Hid (M (fun _ => False) w w []) := M.start _ w
  go_enter Try.func21, Try.ntmps21
  go_wp2_with (first | (go_at_call 22; refine (mnew _).mono ?_; rintro e w1 ⟨b, bl, bo, rfl, m1⟩; have HM : Hid _ := m1; clear m1) | (refine wl_buildL rfl rfl [(0, .int .u8 1)] rfl (cs := (u1.map bv).toArray) bu1 ?_; simp only [Act.put, List.setIfInBounds_toArray, List.set_cons_zero, List.set_cons_succ]) | (refine wl_buildL rfl rfl [(0, .int .u8 2)] rfl (cs := (u2.map bv).toArray) bu2 ?_; simp only [Act.put, List.setIfInBounds_toArray, List.set_cons_zero, List.set_cons_succ]) | (refine wl_buildL rfl rfl [(0, .int .u8 3)] rfl (cs := (u3.map bv).toArray) bu3 ?_; simp only [Act.put, List.setIfInBounds_toArray, List.set_cons_zero, List.set_cons_succ]) | (refine wl_build2 rfl rfl (x := u1) (y := u2) rfl rfl rfl rfl ?_; intro w8 o8 k8 f8; have HM : Hid _ := HM.out.add (x := ids _ [u1, u2]) k8 o8 (fun k hk => f8 k (by cases hk; rfl)); clear o8 k8 f8; simp only [Act.put, List.setIfInBounds_toArray, List.set_cons_zero, List.set_cons_succ]) | (go_at_call_has 26 (Value.string ⟨#[97]⟩); refine (mset_ok _ b bl bo [] [] (HM.out.get 0 rfl) List.nodup_nil (by simp) y1 rfl (sml (by decide)) (sml (by decide)) none 0 0 [] (at_none _) (fun _ _ h _ => by cases h)).mono ?_; rintro e w2 ⟨rfl, L1, n1, mm1, t1⟩; have HM : Hid _ := M.mto HM.out 0 rfl t1; have HN1 : Hid (L1.Nodup) := n1; have HM1 : Hid (∀ y, y ∈ L1 ↔ y = y1) := (fun y => by rw [mm1]; simp [addGs]); clear n1 mm1 t1; have HL1 : Hid (L1.length ≤ 1) := nodup_len (U := [y1]) HN1.out (fun y hy => List.mem_singleton.2 ((HM1.out y).1 hy))) | (go_at_call_has 26 (Value.string ⟨#[98]⟩); refine (mset_ok _ b bl bo L1 [] (HM.out.get 0 rfl) HN1.out (by have := HL1.out; omega) y2 rfl (sml (by decide)) (sml (by decide)) none 0 0 [] (at_none _) (fun _ _ h _ => by cases h)).mono ?_; rintro e w3 ⟨rfl, L2, n2, mm2, t2⟩; have HM : Hid _ := M.mto HM.out 0 rfl t2; have HN2 : Hid (L2.Nodup) := n2; have HM2 : Hid (∀ y, y ∈ L2 ↔ y = y1 ∨ y = y2) := (fun y => by rw [mm2, HM1.out]; simp [addGs]); clear n2 mm2 t2; have HL2 : Hid (L2.length ≤ 2) := nodup_len (U := [y1, y2]) HN2.out (fun y hy => by simpa using (HM2.out y).1 hy)) | (go_at_call_has 26 (Value.string ⟨#[99]⟩); refine (mset_ok _ b bl bo L2 [] (HM.out.get 0 rfl) HN2.out (by have := HL2.out; omega) y3 rfl (sml (by decide)) (sml (by decide)) _ 2 2 [u1, u2] (own_idat (HM.out.get 1 rfl)) (fun g o h _ => by cases h; exact fun hf => HM.out.dis 0 1 _ _ rfl rfl (by decide) _ hf rfl)).mono ?_; rintro e w5 ⟨rfl, L3, n3, mm3, t3⟩; have HM : Hid _ := M.mto HM.out 0 rfl t3; have HN3 : Hid (L3.Nodup) := n3; have HM3 : Hid (∀ y, y ∈ L3 ↔ y = y3) := (fun y => by rw [mm3, HM2.out]; constructor; (rintro ⟨(rfl | rfl) | rfl, h2⟩; (exact absurd (by decide) h2); (exact absurd (by decide) h2); rfl); (rintro rfl; exact ⟨.inr rfl, by decide⟩)); clear n3 mm3 t3; have HL3 : Hid (L3.length ≤ 1) := nodup_len (U := [y3]) HN3.out (fun y hy => List.mem_singleton.2 ((HM3.out y).1 hy))) | ((have q := HM3.out); go_at_call 28; refine (mget_len _ b bl bo L3 _ (HM.out.get 0 rfl) HN3.out (by have := HL3.out; omega) k107 [kv y3] (List.pairwise_singleton _ _) (fun p => by rw [List.mem_singleton]; exact ⟨fun h => ⟨y3, (HM3.out y3).2 rfl, h.symm⟩, fun ⟨x, h1, h2⟩ => by rw [(HM3.out x).1 h1] at h2; exact h2.symm⟩) 1 get_1).mono ?_; rintro e w6 ⟨a6, c6, rfl, t6⟩; have HM : Hid _ := M.mto HM.out 0 rfl t6; clear t6 q) | (go_at_call 28; refine (mget_len _ b bl bo L2 _ (HM.out.get 0 rfl) HN2.out (by have := HL2.out; omega) k107 [kv y1, kv y2] pw_2 (fun p => by simp only [List.mem_cons, List.not_mem_nil, or_false]; exact ⟨fun h => by rcases h with rfl | rfl; (exact ⟨y1, (HM2.out y1).2 (.inl rfl), rfl⟩); (exact ⟨y2, (HM2.out y2).2 (.inr rfl), rfl⟩), fun ⟨x, h1, h2⟩ => by rcases (HM2.out x).1 h1 with rfl | rfl; (exact .inl h2.symm); (exact .inr h2.symm)⟩) 2 get_2).mono ?_; rintro e w4 ⟨a4, c4, rfl, t4⟩; have HM : Hid _ := M.mto HM.out 0 rfl t4; clear t4))
  go_ret
  exact ⟨rfl, HM.out.keep⟩
end Mu
end Go.Proofs.Ytgpimeobkacniaa


namespace Go.Proofs.Ytgpimeobkacniaa
open Go.RowKit
namespace Mu
open Oct Ids Mp
open Mem (M It blk ids rows)
open Go.ChangeShapes Go.WideShapes Go.ChangeAt
open Sq (at_load at_alloc at_store wl_buildL)
/-- A writing, as it came in; a call. -/
abbrev RQ := List UInt8 × ByteArray × ByteArray × Unit
abbrev AQ := RQ × Opn.Sl (List UInt8) × Unit
def layR (x : RQ) : List Value := x.1.map bv ++ [.string x.2.1, .string x.2.2.1]
def factR (x : RQ) : Prop := x.1.length = 32 ∧ x.2.1.size ≤ maxLen ∧ x.2.2.1.size ≤ maxLen
instance (x : RQ) : Decidable (factR x) := by unfold factR; infer_instance
def layQ (x : AQ) : List Value := layR x.1 ++ [x.2.1.val]
def factQ (W : World) (x : AQ) : Prop := factR x.1 ∧ At W x.2.1.a x.2.1.len x.2.1.els
theorem layR_len (x : RQ) (h : factR x) : (layR x).length = 34 := by
  unfold layR
  simp [h.1]
theorem layQ_len (x : AQ) (h : factR x.1) : (layQ x).length = 35 := by
  unfold layQ
  rw [List.length_append, layR_len _ h]
  rfl
theorem rdR : Opn.Rd Try.prog 51 34 layR (fun _ => factR) (fun _ => 0) := by
  have h := Opn.rd_struct (T := 51) Try.underlying51 (by kernel_rfl) (Opn.rdf_cons Opn.rd_id rfl (Opn.rdf_cons Opn.rd_s rfl (Opn.rdf_cons Opn.rd_s rfl Opn.rdf_nil)))
  refine ⟨h.size, fun W x hx => layR_len x hx, fun H enc W fuel cs y hy => ?_, fun W W' x hl hx => hx⟩
  obtain ⟨x, e, ⟨f0, f1, f2, _⟩, b⟩ := h.op H enc W fuel cs y hy
  exact ⟨x, by rw [e]; simp [layR], ⟨f0, f1, f2⟩, Nat.zero_le _⟩
theorem rdQ : Opn.Rd Try.prog 53 35 layQ factQ (fun _ => 0) := by
  have h := Opn.rd_struct (T := 53) Try.underlying53 (by kernel_rfl) (Opn.rdf_cons rdR rfl (Opn.rdf_cons Opn.rd_idl rfl Opn.rdf_nil))
  refine ⟨h.size, fun W x hx => layQ_len x hx.1, fun H enc W fuel cs y hy => ?_, fun W W' x hl hx => ?_⟩
  · obtain ⟨x, e, ⟨f0, f1, _⟩, b⟩ := h.op H enc W fuel cs y hy
    exact ⟨x, by rw [e]; simp [layQ], ⟨f0, Opn.at_of f1⟩, Nat.zero_le _⟩
  · exact ⟨hx.1, Opn.at_leaves hx.2 (fun b o hb => hl b o hb) (fun b i cs hc => hl.range hc)⟩
theorem rdQl : Opn.Rd Try.prog 45 1 (fun x : Opn.Sl AQ => [x.val]) (Opn.SlAt 35 layQ factQ) (fun x => (x.els.map fun _ => 0).sum + 1) :=
  Opn.rd_slice Try.underlying45 (by kernel_rfl) (by omega) rdQ
abbrev qz : Array Value := ((List.replicate 32 (0 : UInt8)).map bv ++ [Value.string ByteArray.empty, .string ByteArray.empty, .slice none 0 0]).toArray
theorem tyQ : St.Ty 53 35 qz := ⟨⟨_, Try.underlying53, rfl⟩, by kernel_rfl, by kernel_rfl⟩
/-- A call, as a record. -/
structure Ac where
  x : Wr
  oa : Option Addr
  on : Nat
  oc : Nat
  ov : List Wd
def ae (a : Ac) : List Value := we a.x ++ [.slice a.oa a.on a.oc]
theorem ae_len (a : Ac) : (ae a).length = 35 := by unfold ae; rw [List.length_append, we_len]; rfl
theorem encA : St.Enc 35 ae := by
  refine ⟨ae_len, fun x v hv => ?_⟩
  unfold ae at hv
  rcases List.mem_append.1 hv with hv | hv
  · exact encW.one x.x v hv
  · obtain rfl := List.mem_singleton.1 hv
    rfl
/-- What is known of a call. -/
def AcAt (w : World) (a : Ac) : Prop := At w a.oa a.on a.ov ∧ a.x.k.size ≤ maxLen ∧ a.x.v.size ≤ maxLen
theorem AcAt.calm {w w' : World} {a : Ac} (h : AcAt w a) (k : Keep (fun _ => False) w w') : AcAt w' a := ⟨h.1.calm k, h.2⟩
def qk (x : AQ) : Ac := if h : factR x.1 then ⟨⟨x.1.1, h.1, x.1.2.1, x.1.2.2.1⟩, x.2.1.a, x.2.1.len, x.2.1.cap, x.2.1.els⟩ else ⟨⟨List.replicate 32 0, rfl, ByteArray.empty, ByteArray.empty⟩, none, 0, 0, []⟩
/-- A row of calls. -/
theorem acs_of {w : World} {s : Opn.Sl AQ} (h : Opn.SlAt 35 layQ factQ w s) : St.At 35 ae w s.a s.len (s.els.map qk) ∧ (∀ x ∈ s.els.map qk, AcAt w x) ∧ s.len ≤ s.cap ∧ s.cap ≤ maxLen := by
  obtain ⟨hln, hlc, hcm, hlay⟩ := h
  by_cases h0 : s.els = []
  · exact ⟨⟨by rw [List.length_map]; exact hln, Nat.le_trans hlc hcm, .inl (by rw [← hln, h0]; rfl)⟩, fun x hx => (by rw [h0] at hx; cases hx), hlc, hcm⟩
  have hf : ∀ x ∈ s.els, factQ w x := fun x hx => by
    rcases hlay with e | ⟨b, off, e, hb, hr⟩
    · exact absurd (List.eq_nil_of_length_eq_zero (by omega)) h0
    · obtain ⟨i, hi⟩ := List.getElem?_of_mem hx
      exact (hr i x hi).2
  refine ⟨⟨by rw [List.length_map]; exact hln, Nat.le_trans hlc hcm, ?_⟩, fun x hx => ?_, hlc, hcm⟩
  · refine hlay.imp id fun ⟨b, off, e, hb, hr⟩ => ⟨b, off, e, hb, fun i x hi => ?_⟩
    rw [List.getElem?_map] at hi
    cases hy : s.els[i]? with
    | none => rw [hy] at hi; cases hi
    | some y =>
      rw [hy] at hi
      have hfy := hf y (List.mem_of_getElem? hy)
      have e2 : qk y = x := Option.some.inj hi
      subst e2
      have h3 := (hr i y hy).1
      unfold layQ layR Opn.Sl.val at h3
      unfold qk
      rw [dif_pos hfy.1]
      exact h3
  · obtain ⟨y, hy, rfl⟩ := List.mem_map.1 hx
    unfold qk
    rw [dif_pos (hf y hy).1]
    exact ⟨(hf y hy).2, (hf y hy).1.2⟩
section
variable {w : World} {b o : Nat} {x : Ac}
theorem rng_ax (h : w.rangeAt b o (ae x)) : w.rangeAt b o (we x.x) := fun j v hj => by
  refine h j v ?_
  unfold ae
  rw [List.getElem?_append_left (List.getElem?_eq_some_iff.1 hj).1]
  exact hj
theorem ae_34 : (ae x)[34]? = some (.slice x.oa x.on x.oc) := by
  unfold ae
  rw [List.getElem?_append_right (by rw [we_len]; exact Nat.le_refl _), we_len]
  rfl
theorem rng_ao (h : w.rangeAt b o (ae x)) : w.cell? ⟨b, o + 34, none⟩ = some (.slice x.oa x.on x.oc) := h 34 _ ae_34
end
def few (x : Ac) : Prop := x.on ≤ 12 ∧ x.x.k.size ≤ 100 ∧ x.x.v.size ≤ 100
structure MchPost (w : World) (n : Nat) (L : List Ac) (e : Ending) (w' : World) : Prop where
  ex : ∃ p, e = .returned (.bool p) ∧ Keep (fun _ => False) w w' ∧ (p = false → n ≤ 30 ∧ ∀ x ∈ L, few x)
set_option maxRecDepth 100000 in
set_option maxHeartbeats 2000000 in
theorem mmuch_any (w : World) (a : Option Addr) (n c : Nat) (L : List Ac) (hA : St.At 35 ae w a n L) (hL : ∀ x ∈ L, AcAt w x) :
    Calls Try.prog 20 #[.slice a n c] w (MchPost w n L) := by
  have HA : Hid (St.At 35 ae w a n L) := hA
  have HL : Hid (∀ x ∈ L, AcAt w x) := hL
  have hnm := hA.most
  unfold maxLen at hnm
  clear hA hL
  go_enter Try.func20, Try.ntmps20
  go_wp2
  go_loopw [3] (fun i wr => ∃ (k : Nat), k ≤ n ∧ k ≤ 30 ∧ i = .int .i64 k ∧ (∀ (j : Nat) (y : Ac), j < k → L[j]? = some y → few y) ∧ Keep (fun _ => False) w wr) (fun i _ => 30 - (intOf i).toNat)
  case atStart => exact ⟨0, Nat.zero_le _, Nat.zero_le _, rfl, fun j y hj => absurd hj (Nat.not_lt_zero _), Keep.refl _ _⟩
  case round =>
    obtain ⟨k, hkn, hk30, rfl, hno, hK⟩ := hrel
    have HK : Hid _ := hK
    have HNo : Hid (∀ (j : Nat) (y : Ac), j < k → L[j]? = some y → few y) := hno
    clear hK hno
    by_cases hlt : k < n ∧ k < 30
    · obtain ⟨hlt, hlt2⟩ := hlt
      obtain ⟨x, hx⟩ : ∃ x, L[k]? = some x := ⟨_, List.getElem?_eq_getElem (by rw [HA.out.len]; exact hlt)⟩
      obtain ⟨b1, o1, rfl, hb1, hr1⟩ : ∃ b off, a = some ⟨b, off, none⟩ ∧ b < w.heap.size ∧ ∀ i x, L[i]? = some x → w.rangeAt b (off + i * 35) (ae x) := by rcases HA.out.lay with e | e; omega; exact e
      have RX : Hid _ := HK.out.range hb1 (fun h => h) (hr1 k x hx)
      have d34 := rng_ao RX.out
      have d32 := rng_wk (rng_ax RX.out)
      have d33 := rng_wv (rng_ax RX.out)
      have Hx : Hid (L[k]? = some x) := hx
      obtain ⟨hxo, hxk, hxv⟩ := HL.out x (List.mem_of_getElem? hx)
      have hxo := hxo.most
      unfold maxLen at hxo hxk hxv
      clear hr1 hx hb1
      by_cases hbig : few x
      · obtain ⟨hf1, hf2, hf3⟩ := hbig
        have HF : Hid (few x) := ⟨hf1, hf2, hf3⟩
        go_wp2
        go_roundw
        case rel =>
          refine ⟨k + 1, by omega, by omega, by go_num, fun j y hj hy => ?_, HK.out⟩
          rcases Nat.lt_or_ge j k with h | h
          · exact HNo.out j y h hy
          · obtain rfl : j = k := by omega
            rw [Hx.out] at hy
            rw [← Option.some.inj hy]
            exact HF.out
        case measure => simp [intOf]; omega
      · have hbig : 12 < x.on ∨ (x.on ≤ 12 ∧ 100 < x.x.k.size) ∨ (x.on ≤ 12 ∧ x.x.k.size ≤ 100 ∧ 100 < x.x.v.size) := by unfold few at hbig; omega
        rcases hbig with h1 | ⟨h1, h2⟩ | ⟨h1, h2, h3⟩
        · go_wp2
          go_ret
          exact ⟨_, rfl, HK.out, fun h => by cases h⟩
        · go_wp2
          go_ret
          exact ⟨_, rfl, HK.out, fun h => by cases h⟩
        · go_wp2
          go_ret
          exact ⟨_, rfl, HK.out, fun h => by cases h⟩
    · have hex : n ≤ 30 → ∀ x ∈ L, few x := fun hn x hx => by
        obtain ⟨j, hj⟩ := List.getElem?_of_mem hx
        have h1 := (List.getElem?_eq_some_iff.1 hj).1
        rw [HA.out.len] at h1
        exact HNo.out j x (by omega) hj
      have HX : Hid _ := hex
      clear hex
      by_cases h30 : 30 < n
      · have hk : k = 30 := by omega
        have hkn' : k < n := by omega
        have hk30' : ¬ (k : Int) < 30 := by omega
        clear hlt hk
        go_wp2
        go_ret
        exact ⟨_, rfl, HK.out, fun h => by have := of_decide_eq_false h; omega⟩
      · have hk' : n = k := by omega
        subst hk'
        clear hlt
        go_wp2
        go_ret
        exact ⟨_, rfl, HK.out, fun _ => ⟨by omega, HX.out (by omega)⟩⟩
/-- What a call makes of what is written. -/
def goO (O : List Wd) (a : Ac) : List Wd := if cdW a.x = 0 then addGs O a.ov else O
structure StPost (w : World) (b bl bo : Nat) (L : List Wr) (O : List Wd) (a : Ac) (e : Ending) (w' : World) : Prop where
  ret : e = .returned (.int .i64 (cdW a.x))
  ok : ∃ L', L'.Nodup ∧ (∀ y, y ∈ L' ↔ if cdW a.x = 0 then (y ∈ L ∨ y = a.x) ∧ y.u ∉ addGs O a.ov else y ∈ L) ∧ MTo w w' b bl bo L' (goO O a)
set_option maxRecDepth 100000 in
set_option maxHeartbeats 4000000 in
theorem mact_any (w : World) (b bl bo : Nat) (L : List Wr) (O : List Wd) (h : MuAt w b bl bo L O) (hn : L.Nodup) (hL : L.length ≤ 900) (a : Ac) (ha : AcAt w a) (hd : ∀ g o, a.oa = some ⟨g, o, none⟩ → a.on ≠ 0 → ¬ mfoot b bl bo g) :
    Calls Try.prog 23 #[.pointer (some ⟨b, 0, none⟩), .agg (ae a).toArray] w (StPost w b bl bo L O a) := by
  have HM : Hid (M (mfoot b bl bo) w _ [muI b bl bo L O, blk w.heap.size (.cells (ae a).toArray 53)]) := (startMu h).alloc (.cells (ae a).toArray 53) rfl
  have RA := HM.out.range 1 rfl
  have d34 := rng_ao RA
  have d32 := rng_wk (rng_ax RA)
  have d33 := rng_wv (rng_ax RA)
  have RU : Hid _ := rng_wu (rng_ax RA)
  simp only [Nat.zero_add] at d34 d32 d33
  have HU : Hid (a.x.u.length = 32) := a.x.hu
  have HSe : Hid (∀ w1, MuAt w1 b bl bo L O → Keep (fun _ => False) w w1 → Calls Try.prog 26 #[.pointer (some ⟨b, 0, none⟩), idv a.x.u, .string a.x.k, .string a.x.v, .slice a.oa a.on a.oc] w1 (StPost w1 b bl bo L O a)) := fun w1 h1 k1 =>
    (mset_any w1 b bl bo L O h1 hn hL a.x ha.2.1 ha.2.2 a.oa a.on a.oc a.ov (ha.1.calm k1) hd).mono fun e w' ⟨h2, h3, h4⟩ => ⟨h2, by
      by_cases hc : cdW a.x = 0
      · obtain ⟨L', g1, g2, g3⟩ := h4 hc
        refine ⟨L', g1, fun y => ?_, ?_⟩
        · rw [if_pos hc]; exact g2 y
        · unfold goO; rw [if_pos hc]; exact g3
      · refine ⟨L, hn, fun y => ?_, ?_⟩
        · rw [if_neg hc]
        · unfold goO; rw [if_neg hc]; exact h3 hc⟩
  have HK : Hid (Keep (fun _ => False) w (w.alloc (.cells (ae a).toArray 53))) := (Keep.refl _ _).alloc _
  generalize (ae a).toArray = Y at HM d34 d32 d33 RU HK ⊢
  clear h hn hL ha hd RA
  go_enter Try.func23, Try.ntmps23
  go_wp2_with (first | ((with_reducible refine at_load 35 ?_); refine Ids.wl_load rfl rfl rfl HU.out RU.out ?_; simp only [Act.put, List.setIfInBounds_toArray, List.set_cons_zero, List.set_cons_succ]) | (go_at_call 26; refine (HSe.out _ (HM.out.get 0 rfl) HK.out).mono ?_; rintro e w2 ⟨rfl, L2, n2, m2, t2⟩; have HM : Hid _ := M.mto HM.out 0 rfl t2; have HR : Hid _ := And.intro n2 m2; clear t2 n2 m2))
  go_ret
  exact ⟨rfl, _, HR.out.1, HR.out.2, ⟨HM.out.get 0 rfl, HM.out.keep⟩⟩
/-! Chapter 24: lists of texts, of pairs. -/
end Mu
end Go.Proofs.Ytgpimeobkacniaa


namespace Go.Proofs.Ytgpimeobkacniaa
open Go.RowKit
namespace Mu
open Oct Ids Mp
open Mem (M It blk ids rows)
set_option maxRecDepth 100000 in
set_option maxHeartbeats 4000000 in
theorem ppairs_same (w : World) (a a2 : Option Addr) (n c c2 : Nat) (L : List Pr) (h1 : St.At 2 pr w a n L) (h2 : St.At 2 pr w a2 n L) :
    Calls Try.prog 31 #[.slice a n c, .slice a2 n c2] w fun e w' => e = .returned (.bool true) ∧ Keep (fun _ => False) w w' := by
  have H1 : Hid (St.At 2 pr w a n L) := h1
  have H2 : Hid (St.At 2 pr w a2 n L) := h2
  have HL : Hid (L.length = n) := h1.len
  have hnm := h1.most
  unfold maxLen at hnm
  clear h1 h2
  go_enter Try.func31, Try.ntmps31
  go_wp2
  go_loopw [5] (fun s5 wr => ∃ (k : Nat), k ≤ n ∧ s5 = .int .i64 k ∧ Keep (fun _ => False) w wr) (fun s5 _ => n - (intOf s5).toNat)
  case atStart => exact ⟨0, Nat.zero_le _, by go_num, Keep.refl _ _⟩
  case round =>
    obtain ⟨k, hk, rfl, hK⟩ := hrel
    have HK : Hid (Keep (fun _ => False) w wr) := hK
    clear hK
    by_cases hlt : k < n
    · obtain ⟨x, hx⟩ : ∃ x, L[k]? = some x := ⟨_, List.getElem?_eq_getElem (by rw [HL.out]; exact hlt)⟩
      obtain ⟨g1, o1, e1, hb1, hr1⟩ := H1.out.lay.resolve_left (by omega)
      subst e1
      obtain ⟨g2, o2, e2, hb2, hr2⟩ := H2.out.lay.resolve_left (by omega)
      subst e2
      have R1 : Hid (wr.drew.rangeAt g1 (o1 + k * 2) (pr x)) := (HK.out.drew).range hb1 (fun h => h) (hr1 k x hx)
      have R2 : Hid (wr.drew.rangeAt g2 (o2 + k * 2) (pr x)) := (HK.out.drew).range hb2 (fun h => h) (hr2 k x hx)
      have HK : Hid (Keep (fun _ => False) w wr.drew) := HK.out.drew
      have hcmp : ∀ w, Sem.run Try.prog (binOp .neq 92 (pv x) (pv x)) w = .ok (.bool false) w := fun w => by rw [neq_pr]; simp
      have hgd : ∀ (op : BinOp) (a b : Operand) (xs ys : Array Value) (w : World), Sem.run Try.prog (eqGuard op 92 a b (.agg xs) (.agg ys)) w = .ok () w := guard_pr
      clear hr1 hr2 hx hb1 hb2
      go_wp2
      refine Txt.wp_region_text (fun _ => True) [0, 0, 0, 1, 0, 0, 0, 1, 0] (by kernel_rfl) (by kernel_rfl) trivial ?_
      (repeat (first | (refine Txt.tl_pure (v := ?_) (by rfl) ?_ ?_; rotate_left; (focus (intro _; go_simp; try with_reducible rfl)); simp only [Act.put, List.setIfInBounds_toArray, List.set_cons_zero, List.set_cons_succ]) | (refine Txt.tl_rowN (n := 2) (ty := 92) (by rfl) (by rfl) (by rfl) R1.out (by kernel_rfl) rfl ?_; simp only [Act.put, List.setIfInBounds_toArray, List.set_cons_zero, List.set_cons_succ]) | (refine Txt.tl_rowN (n := 2) (ty := 92) (by rfl) (by rfl) (by rfl) R2.out (by kernel_rfl) rfl ?_; simp only [Act.put, List.setIfInBounds_toArray, List.set_cons_zero, List.set_cons_succ])))
      refine Txt.tl_nil ?_
      go_wp2
      go_roundw
      case rel => exact ⟨k + 1, by omega, by go_num, HK.out⟩
      case measure => simp [intOf]; omega
    · obtain rfl : n = k := by omega
      go_wp2
      go_ret
      exact ⟨rfl, HK.out⟩
set_option maxRecDepth 100000 in
set_option maxHeartbeats 4000000 in
theorem texts_same (w : World) (a a2 : Option Addr) (n c c2 : Nat) (L : List ByteArray) (h1 : St.At 1 es1 w a n L) (h2 : St.At 1 es1 w a2 n L) :
    Calls Try.prog 27 #[.slice a n c, .slice a2 n c2] w fun e w' => e = .returned (.bool true) ∧ Keep (fun _ => False) w w' := by
  have H1 : Hid (St.At 1 es1 w a n L) := h1
  have H2 : Hid (St.At 1 es1 w a2 n L) := h2
  have HL : Hid (L.length = n) := h1.len
  have hnm := h1.most
  unfold maxLen at hnm
  clear h1 h2
  go_enter Try.func27, Try.ntmps27
  go_wp2
  go_loopw [5] (fun s5 wr => ∃ (k : Nat), k ≤ n ∧ s5 = .int .i64 k ∧ Keep (fun _ => False) w wr) (fun s5 _ => n - (intOf s5).toNat)
  case atStart => exact ⟨0, Nat.zero_le _, by go_num, Keep.refl _ _⟩
  case round =>
    obtain ⟨k, hk, rfl, hK⟩ := hrel
    have HK : Hid (Keep (fun _ => False) w wr) := hK
    clear hK
    by_cases hlt : k < n
    · obtain ⟨x, hx⟩ : ∃ x, L[k]? = some x := ⟨_, List.getElem?_eq_getElem (by rw [HL.out]; exact hlt)⟩
      obtain ⟨g1, o1, e1, hb1, hr1⟩ := H1.out.lay.resolve_left (by omega)
      subst e1
      obtain ⟨g2, o2, e2, hb2, hr2⟩ := H2.out.lay.resolve_left (by omega)
      subst e2
      have d1 : wr.drew.cell? ⟨g1, o1 + k, none⟩ = some (.string x) := by have := (HK.out.drew).range hb1 (fun h => h) (hr1 k x hx) 0 _ rfl; simpa using this
      have d2 : wr.drew.cell? ⟨g2, o2 + k, none⟩ = some (.string x) := by have := (HK.out.drew).range hb2 (fun h => h) (hr2 k x hx) 0 _ rfl; simpa using this
      have HK : Hid (Keep (fun _ => False) w wr.drew) := HK.out.drew
      have hxx : (x.toList == x.toList) = true := by simp
      have hcmp : ∀ w, Sem.run Try.prog (binOp .neq 9 (.string x) (.string x)) w = .ok (.bool false) w := fun w => by
        have : Sem.run Try.prog (binOp .neq 9 (.string x) (.string x)) w = .ok (.bool (!(x.toList == x.toList))) w := rfl
        rw [this, hxx]
        rfl
      clear hr1 hr2 hx hb1 hb2
      go_wp2
      refine Txt.wp_region_text (fun _ => True) [0, 0, 0, 1, 0, 0, 0, 1, 0] (by kernel_rfl) (by kernel_rfl) trivial ?_
      (repeat (first | (refine Txt.tl_pure (v := ?_) (by rfl) ?_ ?_; rotate_left; (focus (intro _; go_simp; try with_reducible rfl)); simp only [Act.put, List.setIfInBounds_toArray, List.set_cons_zero, List.set_cons_succ]) | (refine Txt.tl_load (by rfl) (ty := 9) (by rfl) (by rfl) (by rfl) d1 ?_; simp only [Act.put, List.setIfInBounds_toArray, List.set_cons_zero, List.set_cons_succ]) | (refine Txt.tl_load (by rfl) (ty := 9) (by rfl) (by rfl) (by rfl) d2 ?_; simp only [Act.put, List.setIfInBounds_toArray, List.set_cons_zero, List.set_cons_succ])))
      refine Txt.tl_nil ?_
      go_wp2
      go_roundw
      case rel => exact ⟨k + 1, by omega, by go_num, HK.out⟩
      case measure => simp [intOf]; omega
    · obtain rfl : n = k := by omega
      go_wp2
      go_ret
      exact ⟨rfl, HK.out⟩
end Mu
end Go.Proofs.Ytgpimeobkacniaa


namespace Go.Proofs.Ytgpimeobkacniaa
open Go.RowKit
namespace Txt
section
variable {P : Program} {ops : Array Oper} {o : Oper} {a : Act} {w : World} {K : Act → World → Prop} {Q : Exit → Act → World → Prop}
theorem anyw {n fuel : Nat} {listed : Array Bool} (rs : List Nat) (hn : n = fuel + 1) (hr : Region.ready .any ops listed = rs) (hne : rs ≠ []) (h : ∀ i ∈ rs, wpOp P ops Q i (wpAny P .any ops Q fuel (listed.setIfInBounds i true)) a w) : wpAny P .any ops Q n listed a w := by
  subst hn
  exact wpAny_all hr hne h
theorem all1 {p : Nat → Prop} {i : Nat} (h : p i) : ∀ x ∈ [i], p x := fun x hx => by obtain rfl := List.mem_singleton.1 hx; exact h
theorem all2 {p : Nat → Prop} {i j : Nat} (h : p i) (h' : p j) : ∀ x ∈ [i, j], p x := fun x hx => by
  rcases List.mem_cons.1 hx with rfl | hx
  · exact h
  · exact all1 h' x hx
theorem all3 {p : Nat → Prop} {i j m : Nat} (h : p i) (h' : p j) (h'' : p m) : ∀ x ∈ [i, j, m], p x := fun x hx => by
  rcases List.mem_cons.1 hx with rfl | hx
  · exact h
  · exact all2 h' h'' x hx
theorem opw {i : Nat} (ho : ops.toList[i]? = some o) (hw : Region.wanted o (yielded ops a.tmps) = true) (h : o.wp P a w K Q) : wpOp P ops Q i K a w := by
  unfold wpOp
  rw [Array.getElem?_toList] at ho
  rw [ho]
  show (if _ then _ else _)
  rw [if_pos hw]
  exact .inl h
end
end Txt
namespace Mu
open Oct Ids
theorem wp_build_s {o : Oper} {a : Act} {w : World} {K : Act → World → Prop} {Q : Exit → Act → World → Prop} {x : Operand} (ho : o.op = .buildSlice 58 1 #[(0, x)]) {s : ByteArray} (hx : a.eval x = .string s)
    (h : K (a.put o.dst (.slice (some ⟨w.heap.size, 0, none⟩) 1 1)) (w.alloc (.cells #[.string s] 9))) : o.wp Try.prog a w K Q := by
  unfold Oper.wp execOp
  simp only [ho, Sem.run_bind, List.map_toArray, List.map_cons, List.map_nil, hx, run_build_s w s, Result.andThen_ok]
  exact h
theorem at_s1 {w : World} {b : Nat} {s : ByteArray} {t : TypeId} {fr : Nat × Nat} (h : w.heap[b]? = some (.cells #[.string s] t fr)) : St.At 1 es1 w (some ⟨b, 0, none⟩) 1 [s] :=
  ⟨rfl, by unfold maxLen; omega, .inr ⟨b, 0, rfl, (Array.getElem?_eq_some_iff.1 h).1, fun i x hi => by
    match i, hi with
    | 0, hi =>
      cases hi
      intro j v hj
      match j, hj with
      | 0, hj => cases hj; rw [cell_of h]; rfl⟩⟩
theorem at_i1 {w : World} {b : Nat} {u : Wd} {t : TypeId} {fr : Nat × Nat} (hu : u.length = 32) (h : w.heap[b]? = some (.cells (u.map bv).toArray t fr)) : At w (some ⟨b, 0, none⟩) 1 [u] :=
  ⟨rfl, fun x hx => by rw [List.mem_singleton.1 hx]; exact hu, by unfold maxLen; omega, .inr ⟨b, 0, rfl, (Array.getElem?_eq_some_iff.1 h).1, fun i x hi => by
    match i, hi with
    | 0, hi =>
      cases hi
      intro j v hj
      rw [cell_of h, List.getElem?_toArray, Nat.zero_mul, Nat.add_zero, Nat.zero_add]
      exact hj⟩⟩
theorem AcAt.lt {w : World} {x : Ac} (h : AcAt w x) {g o : Nat} (e : x.oa = some ⟨g, o, none⟩) (hn : x.on ≠ 0) : g < w.heap.size := by
  rcases h.1.lay with h0 | ⟨b, off, e2, hb, _⟩
  · exact absurd h0 hn
  · rw [e] at e2
    cases e2
    exact hb
/-- What stands behind some calls. -/
theorem over_get {L2 : List Wr} {x : Wr} (hx : x ∈ L2) (ho : ∀ y ∈ L2, y.k = x.k → y = x) {l : List Pr} (hl : l.Pairwise ltP) (hm : ∀ p, p ∈ l ↔ ∃ y ∈ L2, kv y = p) : getL l x.k = [x.v] := by
  have e : (l.filter fun p => decide (p.1.toList = x.k.toList)) = [kv x] := Sq.pw_unique ltP_asym _ _ (hl.sublist List.filter_sublist) (List.pairwise_singleton _ _) (fun p => by
    rw [List.mem_filter, List.mem_singleton, hm, decide_eq_true_eq]
    constructor
    · rintro ⟨⟨y, hy, rfl⟩, hk⟩
      rw [ho y hy (toList_inj hk)]
    · rintro rfl
      exact ⟨⟨x, hx, rfl⟩, rfl⟩)
  unfold getL
  rw [e]
  rfl
theorem over_ids {L2 : List Wr} {x : Wr} (hx : x ∈ L2) (ho : ∀ y ∈ L2, y.k = x.k → y = x) : IdL.setL (idsK L2 x.k) = [x.u] := by
  have e : IdL.setL (idsK L2 x.k) = IdL.setL [x.u] := IdL.setL_congr fun u => by
    rw [mem_idsK, List.mem_singleton]
    constructor
    · rintro ⟨y, hy, hk, rfl⟩
      rw [ho y hy hk]
    · rintro rfl
      exact ⟨x, hx, rfl, rfl⟩
  rw [e]
  exact IdL.setL_self (List.pairwise_singleton _ _)
/-- A writing under a new id that overwrites all that its key has. -/
theorem over_all {L L2 : List Wr} {O : List Wd} {x : Wr} (hu : ∀ y ∈ L, y.u ≠ x.u) (hO : x.u ∉ O) (h2 : ∀ y, y ∈ L2 ↔ (y ∈ L ∨ y = x) ∧ y.u ∉ addGs O (IdL.setL (idsK L x.k))) : x ∈ L2 ∧ ∀ y ∈ L2, y.k = x.k → y = x := by
  constructor
  · rw [h2]
    refine ⟨.inr rfl, fun h => ?_⟩
    rw [mem_addGs, IdL.mem_setL, mem_idsK] at h
    rcases h with h | ⟨y, hy, _, he⟩
    · exact hO h
    · exact hu y hy he
  · intro y hy hk
    rw [h2] at hy
    refine hy.1.resolve_left fun h => hy.2 ?_
    rw [mem_addGs, IdL.mem_setL, mem_idsK]
    exact .inr ⟨y, h, hk, rfl⟩
end Mu
end Go.Proofs.Ytgpimeobkacniaa
