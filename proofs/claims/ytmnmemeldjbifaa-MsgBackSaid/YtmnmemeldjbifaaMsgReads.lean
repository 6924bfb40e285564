/-
  'petrellaw09.MsgReads': any bytes are read as the document says. For every input.
-/
import Derived.Test.YtmnmemeldjbifaaMsgB
namespace Go.Proofs.Ytmnmemeldjbifaa
open Go.RowKit
namespace MsgReads
open Oct Ids Ms Go.ChangeShapes Go.WideShapes Go.ChangeAt
open Go.ChangeMaps (open_string shut_string)

theorem same_self (K : Int) (a a2 : Option Addr) (c c2 : Nat) (B : ByteArray) (l : List (List UInt8)) : M.same ⟨K, a, l.length, c, B, l⟩ ⟨K, a2, l.length, c2, B, l⟩ = true := by simp [M.same]
theorem rsame_eq (w : World) (K : Int) (a a2 : Option Addr) (c c2 : Nat) (B : ByteArray) (l : List (List UInt8)) (h1 : At w a l.length l) (h2 : At w a2 l.length l) :
    Calls Try.prog 14 #[.agg #[.int .i64 K, .slice a l.length c, .string B], .agg #[.int .i64 K, .slice a2 l.length c2, .string B]] w fun e w' => e = .returned (.bool true) ∧ Keep (fun _ => False) w w' := by
  have := rsame_m w ⟨K, a, l.length, c, B, l⟩ ⟨K, a2, l.length, c2, B, l⟩ h1 h2
  rwa [same_self] at this
theorem own_at {w : World} {va : Option Addr} {vc : Nat} {l : List (List UInt8)} (h : Own w (.slice va l.length vc) l) : At w va l.length l := by
  obtain ⟨a, c, e, h1, _⟩ := h.at
  simp only [Value.slice.injEq] at e
  rw [e.1]
  exact h1
set_option maxRecDepth 100000 in
set_option maxHeartbeats 1000000 in
theorem walk (s : ByteArray) (hs : s.size ≤ maxLen) (w : World) : Calls Try.prog 3 #[.string s] w fun e w' => e = .returned (.bool true) ∧ Below w.heap.size w w' := by
  unfold maxLen at hs
  by_cases hl : 3000 < s.size
  · go_enter Try.func3, Try.ntmps3
    go_wp2_with (first | (go_at_call 11; refine (awake_true _).mono ?_; rintro e w5 ⟨rfl, k1⟩; have K5 : Hid _ := k1; clear k1))
    go_ret
    exact ⟨rfl, Keep.below K5.out (Nat.le_refl _) (fun _ h => h.elim)⟩
  · have Ho : Hid (∀ w, _) := fun w => of_post w s
    have Hr : Hid (∀ w, _) := fun w => rof_post w s
    unfold OfPost at Ho Hr
    generalize (ofv s).K = K at Ho Hr
    generalize (ofv s).ids = l at Ho Hr
    generalize (ofv s).B = B at Ho Hr
    generalize (ofv s).e = e0 at Ho Hr
    go_enter Try.func3, Try.ntmps3
    go_wp2_with (first | (go_at_call 12; refine (Ho.out _).mono ?_; rintro e w1 ⟨va, vc, rfl, h1, _, k1⟩; have O1 : Hid _ := own_at h1; have K1 : Hid _ := k1; clear h1 k1) | (go_at_call 13; refine (Hr.out _).mono ?_; rintro e w2 ⟨va2, vc2, rfl, h1, _, k1⟩; have O2 : Hid _ := own_at h1; have K2 : Hid _ := k1; obtain ⟨g0, g1, g2⟩ := mcells (w := w2.alloc (.cells #[.int .i64 K, .slice va2 l.length vc2, .string B] 25)) (heap_a (k1.get (heap_alloc_new w1 _) (fun h => h))); clear h1 k1) | (go_at_call 14; refine (rsame_eq _ _ _ _ _ _ _ _ (((O1.out.calm ((Keep.refl _ _).alloc _)).calm K2.out).calm ((Keep.refl _ _).alloc _)) (O2.out.calm ((Keep.refl _ _).alloc _))).mono ?_; rintro e w3 ⟨rfl, k1⟩; have K3 : Hid _ := k1; clear k1) | (go_at_call 11; refine (awake_true _).mono ?_; rintro e w5 ⟨rfl, k1⟩; have K5 : Hid _ := k1; clear k1))
    go_ret
    exact ⟨rfl, Keep.below ((((((K1.out.alloc _).trans K2.out).alloc _).trans K3.out).trans K5.out)) (Nat.le_refl _) (fun _ h => h.elim)⟩

set_option maxRecDepth 100000 in
theorem own : ownKnob Try.prog.godebug = none := by kernel_rfl
set_option maxRecDepth 100000 in
theorem laidOut : laidOutB Try.prog = true := by kernel_rfl
set_option maxRecDepth 100000 in
theorem contract (H : Type) (enc : TypeId × Value → H) (W : World) (base : Nat) (args : Array Value) (ds gs : List (DataW H)) (before : List MemPlace)
    (hval : ∀ (j : Nat) t v, Try.f3.params[j]? = some t → args[j]? = some v → Value.okWide Try.prog W .any base t v)
    (hW : DataW.Whole enc Try.prog Try.f3.params.toList Rows.msgReadsSpec.vars false W args.toList ds gs before) :
    Calls Try.prog 3 args W fun e W' => ∃ v, e = .returned v ∧ Rows.msgReadsSpec.post enc Try.prog Try.f3 false true false false W args v W' := by
  have hW' := hW
  obtain ⟨p, q, hA0, hV, rfl, hfz, hnd⟩ := hW
  have hA : DataW.TrodAll enc Try.prog W 0 (fun _ => true) true Try.f3.params.toList args.toList ds p := hA0
  rw [Try.params3] at hA hval
  obtain ⟨rfl, rfl⟩ := trodVars_none hV
  obtain ⟨v0, vs0, d0, ds0, p0, q0, hargs, rfl, rfl, h0, r0⟩ := trodAll_cons hA
  obtain ⟨rfl, rfl, rfl⟩ := trodAll_nil r0
  obtain rfl : args = #[v0] := by cases args; simp_all
  obtain ⟨s, rfl, rfl, rfl, hs⟩ := open_string Try.underlying9 (hval 0 _ v0 rfl rfl) h0
  refine (walk s hs W).mono fun e W' ⟨he, bel⟩ => ?_
  subst he
  exact ⟨_, rfl, Opn.law_post laidOut (by kernel_rfl) rfl Try.underlying4 rfl rfl hW' bel⟩
set_option maxRecDepth 100000 in
theorem lifted (os : Os) (started : os.Started) (H : Type) (enc : TypeId × Value → H) :
    ReturnsInHanded {} Try.checked os 3 .any (Rows.msgReadsSpec.pre6 enc Try.prog Try.f3 Rows.msgReadsRow.domain false) (Rows.msgReadsSpec.post enc Try.prog Try.f3 false true false false) := by
  refine returnsInHanded_of_change (C := Try.checked) own started (by kernel_rfl) Try.func3
    (ChangeSpec.witness6 (enc := enc) (C := Try.checked) false ⟨#[], #[.string .empty], []⟩ 8 (by kernel_rfl) (by kernel_rfl) (by kernel_rfl) (by kernel_rfl)) ?_
  intro W base args ds gs before hval0 hW hcnd _
  exact contract H enc W base args ds gs before hval0 hW
theorem over : Rows.msgReadsRow.holds Try.pinned (OpenSpec.ofChange Rows.msgReadsSpec) :=
  OpenClaim.holds_of_wide 3 Try.f3 rfl rfl rfl rfl rfl rfl rfl ⟨rfl, rfl, rfl, rfl, rfl⟩ rfl rfl rfl rfl rfl (by kernel_rfl) Try.func3 (by kernel_rfl)
    (of_decide_eq_true (by kernel_rfl)) (by unfold Func.isWrapper; first | (rw [if_pos (by decide +kernel)]; kernel_rfl) | (rw [if_neg (by decide +kernel)]; exact ⟨rfl, rfl⟩))
    (fun os started H enc _ => lifted os started H enc)
theorem proved : Rows.MsgReadsSaid := over
end MsgReads
end Go.Proofs.Ytmnmemeldjbifaa
