/-
  'petrellaw09.MsgPuts': any message is put, checked and compared as the document says. For every input.
-/
import Derived.Test.YtmnmemeldjbifaaMsgReads
import Derived.Test.YtmnmemeldjbifaaText3
namespace Go.Proofs.Ytmnmemeldjbifaa
open Go.RowKit
namespace MsgPuts
open Oct Ids Ms MsgReads Go.ChangeShapes Go.WideShapes Go.ChangeAt
open Go.ChangeMaps (open_string shut_string)

theorem range3 {w : World} {b : Nat} {K : Int} {v : Value} {B : ByteArray} (h : w.heap[b]? = some (.cells #[.int .i64 K, v, .string B] 25 (0, 0))) : w.rangeAt b 0 [.int .i64 K, v, .string B] := by
  intro j u hj
  rw [Nat.zero_add, cell_of h]
  simpa using hj
theorem same_v (w : World) (K K2 : Int) (a a2 : Option Addr) (n n2 c c2 : Nat) (B B2 : ByteArray) (l l2 : List (List UInt8)) (v : Bool) (h1 : At w a n l) (h2 : At w a2 n2 l2) (hv : M.same ⟨K, a, n, c, B, l⟩ ⟨K2, a2, n2, c2, B2, l2⟩ = v) :
    Calls Try.prog 19 #[.agg #[.int .i64 K, .slice a n c, .string B], .agg #[.int .i64 K2, .slice a2 n2 c2, .string B2]] w fun e w' => e = .returned (.bool v) ∧ Keep (fun _ => False) w w' := by
  have := same_m w ⟨K, a, n, c, B, l⟩ ⟨K2, a2, n2, c2, B2, l2⟩ h1 h2
  rwa [hv] at this
theorem rsame_v (w : World) (K K2 : Int) (a a2 : Option Addr) (n n2 c c2 : Nat) (B B2 : ByteArray) (l l2 : List (List UInt8)) (v : Bool) (h1 : At w a n l) (h2 : At w a2 n2 l2) (hv : M.same ⟨K, a, n, c, B, l⟩ ⟨K2, a2, n2, c2, B2, l2⟩ = v) :
    Calls Try.prog 14 #[.agg #[.int .i64 K, .slice a n c, .string B], .agg #[.int .i64 K2, .slice a2 n2 c2, .string B2]] w fun e w' => e = .returned (.bool v) ∧ Keep (fun _ => False) w w' := by
  have := rsame_m w ⟨K, a, n, c, B, l⟩ ⟨K2, a2, n2, c2, B2, l2⟩ h1 h2
  rwa [hv] at this
/-- The two messages, in memory. -/
structure PS (w wr : World) (K K2 : Int) (a a2 : Option Addr) (n n2 c c2 : Nat) (B B2 : ByteArray) (l l2 : List (List UInt8)) : Prop where
  mb : wr.heap[w.heap.size]? = some (.cells #[.int .i64 K, .slice a n c, .string B] 25 (0, 0))
  nb : wr.heap[w.heap.size + 1]? = some (.cells #[.int .i64 K2, .slice a2 n2 c2, .string B2] 25 (0, 0))
  a1 : At wr a n l
  a2 : At wr a2 n2 l2
  keep : Keep (fun _ => False) w wr
section
variable {w wr : World} {K K2 : Int} {a a2 : Option Addr} {n n2 c c2 : Nat} {B B2 : ByteArray} {l l2 : List (List UInt8)}
theorem PS.calm (h : PS w wr K K2 a a2 n n2 c c2 B B2 l l2) {w' : World} (k : Keep (fun _ => False) wr w') : PS w w' K K2 a a2 n n2 c c2 B B2 l l2 :=
  ⟨k.get h.mb (fun h => h), k.get h.nb (fun h => h), h.a1.calm k, h.a2.calm k, h.keep.trans k⟩
theorem PS.s (h : PS w wr K K2 a a2 n n2 c c2 B B2 l l2) : wr.rangeAt w.heap.size 0 [.int .i64 K, .slice a n c, .string B] ∧ wr.rangeAt (w.heap.size + 1) 0 [.int .i64 K2, .slice a2 n2 c2, .string B2] := ⟨range3 h.mb, range3 h.nb⟩
theorem ps_start (h1 : At w a n l) (h2 : At w a2 n2 l2) {w1 : World} (k : Keep (fun _ => False) ((w.alloc (.cells #[.int .i64 K, .slice a n c, .string B] 25)).alloc (.cells #[.int .i64 K2, .slice a2 n2 c2, .string B2] 25)) w1) : PS w w1 K K2 a a2 n n2 c c2 B B2 l l2 := by
  have kk : Keep (fun _ => False) w w1 := (((Keep.refl (fun _ => False) w).alloc _).alloc _).trans k
  refine ⟨k.get (heap_a (heap_alloc_new w _)) (fun h => h), ?_, h1.calm kk, h2.calm kk, kk⟩
  have := k.get (heap_alloc_new (w.alloc (.cells #[.int .i64 K, .slice a n c, .string B] 25)) (.cells #[.int .i64 K2, .slice a2 n2 c2, .string B2] 25)) (fun h => h)
  rwa [size_alloc] at this
end
set_option maxHeartbeats 8000000 in
set_option maxRecDepth 100000 in
theorem walk (K K2 : Int) (a a2 : Option Addr) (n n2 c c2 : Nat) (B B2 : ByteArray) (l l2 : List (List UInt8)) (w : World) (h1 : At w a n l) (h2 : At w a2 n2 l2) (hB : B.size ≤ maxLen) (hB2 : B2.size ≤ maxLen) :
    Calls Try.prog 4 #[.agg #[.int .i64 K, .slice a n c, .string B], .agg #[.int .i64 K2, .slice a2 n2 c2, .string B2]] w fun e w' => e = .returned (.bool true) ∧ Below w.heap.size w w' := by
  have hn := h1.most
  have hn2 := h2.most
  unfold maxLen at hB hB2 hn hn2
  have A1 : Hid _ := h1
  have A2 : Hid _ := h2
  obtain ⟨v, hv⟩ : ∃ v, M.same ⟨K, a, n, c, B, l⟩ ⟨K2, a2, n2, c2, B2, l2⟩ = v := ⟨_, rfl⟩
  have Hv : Hid _ := hv
  have hs1 : M.same ⟨K, a, n, c, B, l⟩ ⟨K, a, n, c, B, l⟩ = true := by simp [M.same]
  have Hs1 : Hid _ := hs1
  obtain ⟨p, hp⟩ : ∃ p, pv K n B l = p := ⟨_, rfl⟩
  obtain ⟨q, hq⟩ : ∃ q, chk K n B = q := ⟨_, rfl⟩
  have Hp : Hid _ := hp
  have Hq : Hid _ := hq
  clear h1 h2 hv hs1 hp hq
  by_cases hgo : n ≤ 60 ∧ n2 ≤ 60 ∧ B.size ≤ 2000
  · obtain ⟨g60, g61, g62⟩ := hgo
    go_enter Try.func4, Try.ntmps4
    go_wp2_with (first | (go_at_call 15; refine (put_any _ K a n c B l ((A1.out.calm ((Keep.refl _ _).alloc _)).calm ((Keep.refl _ _).alloc _))).mono ?_; rw [Hp.out, Hq.out]; rintro e w1 ⟨rfl, k1⟩; have HP : Hid _ := ps_start A1.out A2.out k1; clear k1; obtain ⟨g0, g1, g2⟩ := mcells HP.out.mb) | (go_at_call 16; refine (rput_any _ K a n c B l HP.out.a1).mono ?_; rw [Hp.out, Hq.out]; rintro e w2 ⟨rfl, k1⟩; have HP : Hid _ := HP.out.calm k1; clear k1; obtain ⟨g0, g1, g2⟩ := mcells HP.out.mb))
    refine Txt.wp_region_text (fun w' => w'.rangeAt w.heap.size 0 [.int .i64 K, .slice a n c, .string B] ∧ w'.rangeAt (w.heap.size + 1) 0 [.int .i64 K2, .slice a2 n2 c2, .string B2]) [0, 0, 0, 0, 0, 0, 0, 0, 0, 1, 4, 2, 4, 0, 0, 0, 1, 1, 4, 2, 2, 4, 0, 0, 0, 1, 1, 4, 0, 0, 4, 0, 0] (by kernel_rfl) (by kernel_rfl) HP.out.s ?_
    have HP : Hid _ := HP.out.calm (Keep.refl _ _).drew
    clear g0 g1 g2
    repeat (first
      | (refine Txt.tl_pure (v := ?_) (by rfl) ?_ ?_; rotate_left; (focus (intro _; go_simp; try with_reducible rfl)); simp only [Act.put, List.setIfInBounds_toArray, List.set_cons_zero, List.set_cons_succ])
      | (refine Txt.tl_skip (by rfl) trivial ?_; simp only [Act.put, List.setIfInBounds_toArray, List.set_cons_zero, List.set_cons_succ])
      | (refine Txt.tl_load (v := ?_) (by rfl) (by rfl) (by rfl) (by kernel_rfl) ?_ ?_; rotate_left; (focus (first | assumption | (go_simp; done) | (go_simp; with_reducible rfl))); simp only [Act.put, List.setIfInBounds_toArray, List.set_cons_zero, List.set_cons_succ])
      | (refine Txt.tl_alloc (by rfl) ?_; go_simp; refine ⟨by (first | exact Txt.Le.alloc_drew _ _ | exact Txt.Le.alloc _ _), ?_⟩))
    refine Txt.tl_loadRow (by rfl) (by rfl) (by rfl) HP.out.s.1 (by kernel_rfl) ?_
    simp only [Act.put, List.setIfInBounds_toArray, List.set_cons_zero, List.set_cons_succ]
    refine Txt.tl_call Try.func17 (by kernel_rfl) (by kernel_rfl) (by rfl) (by rfl) (by rfl) (check_any _ K a n c B) ?_
    rw [Hq.out]
    rintro e w9 ⟨rfl, k1⟩
    have HP : Hid _ := HP.out.calm k1
    clear k1
    refine ⟨_, rfl, HP.out.s, ?_⟩
    simp only [Act.put, List.setIfInBounds_toArray, List.set_cons_zero, List.set_cons_succ]
    refine Txt.tl_loadRowS (by rfl) (by rfl) (by rfl) (fun _ h => h.1) (by kernel_rfl) ?_
    simp only [Act.put, List.setIfInBounds_toArray, List.set_cons_zero, List.set_cons_succ]
    refine Txt.tl_call Try.func18 (by kernel_rfl) (by kernel_rfl) (by rfl) (by rfl) (by rfl) (rcheck_any _ K a n c B) ?_
    rw [Hq.out]
    rintro e w9 ⟨rfl, k1⟩
    have HP : Hid _ := HP.out.calm k1
    clear k1
    refine ⟨_, rfl, HP.out.s, ?_⟩
    simp only [Act.put, List.setIfInBounds_toArray, List.set_cons_zero, List.set_cons_succ]
    repeat (first
      | (refine Txt.tl_pure (v := ?_) (by rfl) ?_ ?_; rotate_left; (focus (intro _; go_simp; try with_reducible rfl)); simp only [Act.put, List.setIfInBounds_toArray, List.set_cons_zero, List.set_cons_succ])
      | (refine Txt.tl_skip (by rfl) trivial ?_; simp only [Act.put, List.setIfInBounds_toArray, List.set_cons_zero, List.set_cons_succ])
      | (refine Txt.tl_load (v := ?_) (by rfl) (by rfl) (by rfl) (by kernel_rfl) ?_ ?_; rotate_left; (focus (first | assumption | (go_simp; done) | (go_simp; with_reducible rfl))); simp only [Act.put, List.setIfInBounds_toArray, List.set_cons_zero, List.set_cons_succ])
      | (refine Txt.tl_alloc (by rfl) ?_; go_simp; refine ⟨by (first | exact Txt.Le.alloc_drew _ _ | exact Txt.Le.alloc _ _), ?_⟩))
    refine Txt.tl_loadRow (by rfl) (by rfl) (by rfl) HP.out.s.1 (by kernel_rfl) ?_
    simp only [Act.put, List.setIfInBounds_toArray, List.set_cons_zero, List.set_cons_succ]
    refine Txt.tl_loadRow (by rfl) (by rfl) (by rfl) HP.out.s.2 (by kernel_rfl) ?_
    simp only [Act.put, List.setIfInBounds_toArray, List.set_cons_zero, List.set_cons_succ]
    refine Txt.tl_call Try.func19 (by kernel_rfl) (by kernel_rfl) (by rfl) (by rfl) (by rfl) (same_v _ K K2 a a2 n n2 c c2 B B2 l l2 v HP.out.a1 HP.out.a2 Hv.out) ?_
    rintro e w9 ⟨rfl, k1⟩
    have HP : Hid _ := HP.out.calm k1
    clear k1
    refine ⟨_, rfl, HP.out.s, ?_⟩
    simp only [Act.put, List.setIfInBounds_toArray, List.set_cons_zero, List.set_cons_succ]
    refine Txt.tl_loadRowS (by rfl) (by rfl) (by rfl) (fun _ h => h.1) (by kernel_rfl) ?_
    simp only [Act.put, List.setIfInBounds_toArray, List.set_cons_zero, List.set_cons_succ]
    refine Txt.tl_loadRowS (by rfl) (by rfl) (by rfl) (fun _ h => h.2) (by kernel_rfl) ?_
    simp only [Act.put, List.setIfInBounds_toArray, List.set_cons_zero, List.set_cons_succ]
    refine Txt.tl_call Try.func14 (by kernel_rfl) (by kernel_rfl) (by rfl) (by rfl) (by rfl) (rsame_v _ K K2 a a2 n n2 c c2 B B2 l l2 v HP.out.a1 HP.out.a2 Hv.out) ?_
    rintro e w9 ⟨rfl, k1⟩
    have HP : Hid _ := HP.out.calm k1
    clear k1
    refine ⟨_, rfl, HP.out.s, ?_⟩
    simp only [Act.put, List.setIfInBounds_toArray, List.set_cons_zero, List.set_cons_succ]
    repeat (first
      | (refine Txt.tl_pure (v := ?_) (by rfl) ?_ ?_; rotate_left; (focus (intro _; go_simp; try with_reducible rfl)); simp only [Act.put, List.setIfInBounds_toArray, List.set_cons_zero, List.set_cons_succ])
      | (refine Txt.tl_skip (by rfl) trivial ?_; simp only [Act.put, List.setIfInBounds_toArray, List.set_cons_zero, List.set_cons_succ])
      | (refine Txt.tl_load (v := ?_) (by rfl) (by rfl) (by rfl) (by kernel_rfl) ?_ ?_; rotate_left; (focus (first | assumption | (go_simp; done) | (go_simp; with_reducible rfl))); simp only [Act.put, List.setIfInBounds_toArray, List.set_cons_zero, List.set_cons_succ])
      | (refine Txt.tl_alloc (by rfl) ?_; go_simp; refine ⟨by (first | exact Txt.Le.alloc_drew _ _ | exact Txt.Le.alloc _ _), ?_⟩))
    refine Txt.tl_loadRow (by rfl) (by rfl) (by rfl) HP.out.s.1 (by kernel_rfl) ?_
    simp only [Act.put, List.setIfInBounds_toArray, List.set_cons_zero, List.set_cons_succ]
    refine Txt.tl_loadRow (by rfl) (by rfl) (by rfl) HP.out.s.1 (by kernel_rfl) ?_
    simp only [Act.put, List.setIfInBounds_toArray, List.set_cons_zero, List.set_cons_succ]
    refine Txt.tl_call Try.func19 (by kernel_rfl) (by kernel_rfl) (by rfl) (by rfl) (by rfl) (same_v _ K K a a n n c c B B l l true HP.out.a1 HP.out.a1 Hs1.out) ?_
    rintro e w9 ⟨rfl, k1⟩
    have HP : Hid _ := HP.out.calm k1
    clear k1
    refine ⟨_, rfl, HP.out.s, ?_⟩
    simp only [Act.put, List.setIfInBounds_toArray, List.set_cons_zero, List.set_cons_succ]
    repeat (first
      | (refine Txt.tl_pure (v := ?_) (by rfl) ?_ ?_; rotate_left; (focus (intro _; go_simp; try with_reducible rfl)); simp only [Act.put, List.setIfInBounds_toArray, List.set_cons_zero, List.set_cons_succ])
      | (refine Txt.tl_skip (by rfl) trivial ?_; simp only [Act.put, List.setIfInBounds_toArray, List.set_cons_zero, List.set_cons_succ])
      | (refine Txt.tl_load (v := ?_) (by rfl) (by rfl) (by rfl) (by kernel_rfl) ?_ ?_; rotate_left; (focus (first | assumption | (go_simp; done) | (go_simp; with_reducible rfl))); simp only [Act.put, List.setIfInBounds_toArray, List.set_cons_zero, List.set_cons_succ])
      | (refine Txt.tl_alloc (by rfl) ?_; go_simp; refine ⟨by (first | exact Txt.Le.alloc_drew _ _ | exact Txt.Le.alloc _ _), ?_⟩))
    refine Txt.tl_call Try.func11 (by kernel_rfl) (by kernel_rfl) (by rfl) (by rfl) (by rfl) (awake_true _) ?_
    rintro e w9 ⟨rfl, k1⟩
    have HP : Hid _ := HP.out.calm k1
    clear k1
    refine ⟨_, rfl, HP.out.s, ?_⟩
    simp only [Act.put, List.setIfInBounds_toArray, List.set_cons_zero, List.set_cons_succ]
    repeat (first
      | (refine Txt.tl_pure (v := ?_) (by rfl) ?_ ?_; rotate_left; (focus (intro _; go_simp; try with_reducible rfl)); simp only [Act.put, List.setIfInBounds_toArray, List.set_cons_zero, List.set_cons_succ])
      | (refine Txt.tl_skip (by rfl) trivial ?_; simp only [Act.put, List.setIfInBounds_toArray, List.set_cons_zero, List.set_cons_succ])
      | (refine Txt.tl_load (v := ?_) (by rfl) (by rfl) (by rfl) (by kernel_rfl) ?_ ?_; rotate_left; (focus (first | assumption | (go_simp; done) | (go_simp; with_reducible rfl))); simp only [Act.put, List.setIfInBounds_toArray, List.set_cons_zero, List.set_cons_succ])
      | (refine Txt.tl_alloc (by rfl) ?_; go_simp; refine ⟨by (first | exact Txt.Le.alloc_drew _ _ | exact Txt.Le.alloc _ _), ?_⟩))
    refine Txt.tl_nil ?_
    go_wp2
    go_ret
    exact ⟨rfl, Keep.below HP.out.keep (Nat.le_refl _) (fun _ h => h.elim)⟩
  · have hgo' : 60 < n ∨ (n ≤ 60 ∧ 60 < n2) ∨ (n ≤ 60 ∧ n2 ≤ 60 ∧ 2000 < B.size) := by omega
    clear hgo
    rcases hgo' with h | ⟨h, h'⟩ | ⟨h, h', h''⟩
    all_goals
      go_enter Try.func4, Try.ntmps4
      go_wp2_with (first | (go_at_call 11; refine (awake_true _).mono ?_; rintro e w5 ⟨rfl, k1⟩; have K5 : Hid _ := k1; clear k1))
      go_ret
      exact ⟨rfl, Keep.below ((((Keep.refl (fun _ => False) w).alloc _).alloc _).trans K5.out) (Nat.le_refl _) (fun _ h => h.elim)⟩

set_option maxRecDepth 100000 in
theorem own : ownKnob Try.prog.godebug = none := by kernel_rfl
set_option maxRecDepth 100000 in
theorem laidOut : laidOutB Try.prog = true := by kernel_rfl
set_option maxRecDepth 100000 in
theorem contract (H : Type) (enc : TypeId × Value → H) (W : World) (base : Nat) (args : Array Value) (ds gs : List (DataW H)) (before : List MemPlace)
    (hval : ∀ (j : Nat) t v, Try.f4.params[j]? = some t → args[j]? = some v → Value.okWide Try.prog W .any base t v)
    (hW : DataW.Whole enc Try.prog Try.f4.params.toList Rows.msgPutsSpec.vars false W args.toList ds gs before) :
    Calls Try.prog 4 args W fun e W' => ∃ v, e = .returned v ∧ Rows.msgPutsSpec.post enc Try.prog Try.f4 false true false false W args v W' := by
  have hW' := hW
  obtain ⟨p, q, hA0, hV, rfl, hfz, hnd⟩ := hW
  have hA : DataW.TrodAll enc Try.prog W 0 (fun _ => true) true Try.f4.params.toList args.toList ds p := hA0
  rw [Try.params4] at hA hval
  obtain ⟨rfl, rfl⟩ := trodVars_none hV
  obtain ⟨v0, vs0, d0, ds0, p0, q0, hargs, rfl, rfl, h0, r0⟩ := trodAll_cons hA
  obtain ⟨v1, vs1, d1, ds1, p1, q1, rfl, rfl, rfl, h1, r1⟩ := trodAll_cons r0
  obtain ⟨rfl, rfl, rfl⟩ := trodAll_nil r1
  obtain rfl : args = #[v0, v1] := by cases args; simp_all
  obtain ⟨x, rfl, f0, _⟩ := open_st Try.underlying25 rdM (hval 0 _ v0 rfl rfl) h0
  obtain ⟨y, rfl, f1, _⟩ := open_st Try.underlying25 rdM (hval 1 _ v1 rfl rfl) h1
  refine (walk x.1 y.1 x.2.1.a y.2.1.a x.2.1.len y.2.1.len x.2.1.cap y.2.1.cap x.2.2.1 y.2.2.1 x.2.1.els y.2.1.els W f0.1 f1.1 f0.2 f1.2).mono fun e W' ⟨he, bel⟩ => ?_
  subst he
  exact ⟨_, rfl, Opn.law_post laidOut (by kernel_rfl) rfl Try.underlying4 rfl rfl hW' bel⟩
set_option maxRecDepth 100000 in
theorem lifted (os : Os) (started : os.Started) (H : Type) (enc : TypeId × Value → H) :
    ReturnsInHanded {} Try.checked os 4 .any (Rows.msgPutsSpec.pre6 enc Try.prog Try.f4 Rows.msgPutsRow.domain false) (Rows.msgPutsSpec.post enc Try.prog Try.f4 false true false false) := by
  refine returnsInHanded_of_change (C := Try.checked) own started (by kernel_rfl) Try.func4
    (ChangeSpec.witness6 (enc := enc) (C := Try.checked) false ⟨#[], #[.agg #[.int .i64 0, .slice none 0 0, .string .empty], .agg #[.int .i64 0, .slice none 0 0, .string .empty]], []⟩ 8 (by kernel_rfl) (by kernel_rfl) (by kernel_rfl) (by kernel_rfl)) ?_
  intro W base args ds gs before hval0 hW hcnd _
  exact contract H enc W base args ds gs before hval0 hW
theorem over : Rows.msgPutsRow.holds Try.pinned (OpenSpec.ofChange Rows.msgPutsSpec) :=
  OpenClaim.holds_of_wide 4 Try.f4 rfl rfl rfl rfl rfl rfl rfl ⟨rfl, rfl, rfl, rfl, rfl⟩ rfl rfl rfl rfl rfl (by kernel_rfl) Try.func4 (by kernel_rfl)
    (of_decide_eq_true (by kernel_rfl)) (by unfold Func.isWrapper; first | (rw [if_pos (by decide +kernel)]; kernel_rfl) | (rw [if_neg (by decide +kernel)]; exact ⟨rfl, rfl⟩))
    (fun os started H enc _ => lifted os started H enc)
theorem proved : Rows.MsgPutsSaid := over
end MsgPuts
end Go.Proofs.Ytmnmemeldjbifaa
