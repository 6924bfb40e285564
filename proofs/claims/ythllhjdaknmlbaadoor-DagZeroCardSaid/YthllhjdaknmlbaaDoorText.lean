/-
  A region that draws its order, walked in the text's order: where each two operations that no edge orders may change places, one order shows all of them. No function of the program is named here.
-/
import Derived.OrdersHeld
import Derived.WalkKit
import Derived.Below
import Derived.Deep.MidRow
set_option linter.unusedVariables false
set_option linter.unusedSimpArgs false
namespace Go.Proofs.YthllhjdaknmlbaaDoor.Txt
open Go Go.RowKit

/-- Each block of w is in w2 as it was. -/
def Le (w w2 : World) : Prop := ∀ (k : Nat) (o : Obj), w.heap[k]? = some o → w2.heap[k]? = some o
theorem Le.refl (w : World) : Le w w := fun _ _ h => h
theorem Le.trans {a b c : World} (h : Le a b) (k : Le b c) : Le a c := fun i o hi => k i o (h i o hi)

/-- What an operation may do: 0 nothing to memory, 1 it reads, 3 it makes memory, 4 anything. -/
def kindOf (P : Program) : Op → Nat
  | .move _ | .assign _ | .pick .. | .nilCheck _ | .binOp .. | .unOp .. | .fieldAddr .. | .field .. | .indexAddr .. | .index .. | .build .. | .slice .. | .extract .. | .makeInterface .. | .makeFunc .. => 0
  | .convert src dst _ => match P.underlying src, P.underlying dst with
    | some (.slice _), _ => 1
    | _, some (.slice _) => 3
    | _, _ => 0
  | .call { callee := .builtin .len, argTypes, .. } => match (argTypes[0]?).bind P.underlying with | some (.map ..) => 1 | _ => 0
  | .call { callee := .builtin .min, .. } | .call { callee := .builtin .max, .. } | .call { callee := .builtin .cap, .. } => 0
  | .load .. | .lookup .. => 1
  | .alloc _ | .box .. | .buildSlice .. => 3
  | _ => 4

def kindAt (P : Program) (ops : Array Oper) (i : Nat) : Nat := match ops[i]? with | some o => kindOf P o.op | none => 0
def ordered (b : Array Nat) (i j : Nat) : Bool := if i < j then (b.getD j 0).testBit i else (b.getD i 0).testBit j
/-- A read that may come ahead of, or behind, an effect that stands elsewhere in the text. -/
def exposed (P : Program) (ops : Array Oper) (b : Array Nat) (j : Nat) : Bool :=
  (List.range ops.size).any fun i => i != j && !ordered b i j && (kindAt P ops i == 4 || (kindAt P ops i == 3 && decide (i < j)))
def tagAt (P : Program) (ops : Array Oper) (b : Array Nat) (j : Nat) : Nat :=
  if kindAt P ops j = 1 then (if exposed P ops b j then 2 else 1) else kindAt P ops j
def pairOk (P : Program) (ops : Array Oper) (b : Array Nat) (i j : Nat) : Bool :=
  (match ops[i]?, ops[j]? with | some x, some y => x.apart ops y | _, _ => true) &&
  (decide (tagAt P ops b i ≤ 2) || decide (tagAt P ops b j ≤ 2)) &&
  (!(tagAt P ops b i == 1 && tagAt P ops b j == 4)) && (!(decide (3 ≤ tagAt P ops b i) && tagAt P ops b j == 1))
def planB (P : Program) (ops : Array Oper) : Bool :=
  let b := Region.before ops
  Region.noSelect ops && ((List.range ops.size).all fun j => match ops[j]? with | some o => o.after.all (fun e => !Region.binds .any e || decide (e.on < j)) | none => true) &&
  ((List.range ops.size).all fun j => (List.range j).all fun i => (b.getD j 0).testBit i || pairOk P ops b i j)

section
variable {P : Program} {ops : Array Oper} {S : World → Prop}

/-- i is ahead of j by edges. -/
inductive Anc (ops : Array Oper) : Nat → Nat → Prop
  | base {i j : Nat} {o : Oper} {e : Edge} : ops[j]? = some o → e ∈ o.after → Region.binds .any e = true → e.on = i → Anc ops i j
  | step {i j k : Nat} {o : Oper} {e : Edge} : ops[j]? = some o → e ∈ o.after → Region.binds .any e = true → e.on = k → Anc ops i k → Anc ops i j

theorem fold_edges (acc : Array Nat) (x : Nat) : ∀ (l : List Edge) (s : Nat),
    (l.foldl (fun s e => if Region.binds .any e then s ||| 2 ^ e.on ||| acc.getD e.on 0 else s) s).testBit x = true →
    s.testBit x = true ∨ ∃ e ∈ l, Region.binds .any e = true ∧ (e.on = x ∨ (acc.getD e.on 0).testBit x = true)
  | [], s, h => .inl h
  | e :: l, s, h => by
    rw [List.foldl_cons] at h
    rcases fold_edges acc x l _ h with h1 | ⟨e', he, hb, hx⟩
    · by_cases hb : Region.binds .any e = true
      · rw [if_pos hb] at h1
        simp only [Nat.testBit_or, Bool.or_eq_true, Nat.testBit_two_pow, decide_eq_true_eq] at h1
        rcases h1 with (h1 | h1) | h1
        · exact .inl h1
        · exact .inr ⟨e, by simp, hb, .inl h1⟩
        · exact .inr ⟨e, by simp, hb, .inr h1⟩
      · rw [if_neg hb] at h1; exact .inl h1
    · exact .inr ⟨e', by simp [he], hb, hx⟩

theorem before_fold (x : Nat) : ∀ (l : List Oper) (k : Nat) (acc : Array Nat), acc.size = k → (∀ j, l[j]? = ops[k + j]?) →
    (∀ j, (acc.getD j 0).testBit x = true → Anc ops x j) →
    ∀ j, ((l.foldl (fun acc o => acc.push (o.after.foldl (fun s e => if Region.binds .any e then s ||| 2 ^ e.on ||| acc.getD e.on 0 else s) 0)) acc).getD j 0).testBit x = true → Anc ops x j
  | [], _, acc, _, _, h => h
  | o :: l, k, acc, hk, hl, h => by
    rw [List.foldl_cons]
    refine before_fold x l (k + 1) _ (by simp [hk]) (fun j => by have := hl (j + 1); simpa [Nat.add_assoc, Nat.add_comm 1 j] using this) ?_
    intro j hj
    rw [Array.getD_eq_getD_getElem?, Array.getElem?_push] at hj
    by_cases e : j = acc.size
    · rw [if_pos e] at hj
      simp only [Option.getD_some] at hj
      rw [← Array.foldl_toList] at hj
      have ho : ops[j]? = some o := by have := hl 0; simp at this; rw [e, hk]; exact this.symm
      rcases fold_edges acc x _ _ hj with h0 | ⟨e', he, hb, hx⟩
      · simp at h0
      · rcases hx with hx | hx
        · exact .base ho (by simpa using he) hb hx
        · exact .step ho (by simpa using he) hb rfl (h _ hx)
    · rw [if_neg e, ← Array.getD_eq_getD_getElem?] at hj
      exact h j hj

theorem before_anc {x j : Nat} (h : ((Region.before ops).getD j 0).testBit x = true) : Anc ops x j := by
  unfold Region.before at h
  rw [← Array.foldl_toList] at h
  exact before_fold x ops.toList 0 #[] rfl (by simp) (by intro j hj; simp at hj) j h

/-- What is listed is closed. -/
def Closed (ops : Array Oper) (listed : Array Bool) : Prop := ∀ j o, ops[j]? = some o → listed.getD j true = true → j < listed.size → ∀ e ∈ o.after, Region.binds .any e = true → listed.getD e.on false = true

theorem anc_listed {listed : Array Bool} (hc : Closed ops listed) {x i : Nat} (h : Anc ops x i) (hi : ∀ o, ops[i]? = some o → ∀ e ∈ o.after, Region.binds .any e = true → listed.getD e.on false = true) : listed.getD x false = true := by
  induction h with
  | base ho he hb heq => rw [← heq]; exact hi _ ho _ he hb
  | @step j k o0 e0 ho he hb heq _ ih =>
    have h1 := hi _ ho _ he hb
    rw [heq] at h1
    refine ih fun o ho' e he' hb' => ?_
    rcases Nat.lt_or_ge k listed.size with hlt | hge
    · refine hc k o ho' ?_ hlt e he' hb'
      simp only [Array.getD_eq_getD_getElem?, Array.getElem?_eq_getElem hlt, Option.getD_some] at h1 ⊢
      exact h1
    · simp [Array.getD_eq_getD_getElem?, Array.getElem?_eq_none hge] at h1

/-! One step. -/
def Qf : Exit → Act → World → Prop := fun _ _ _ => False
def stepT (P : Program) (ops : Array Oper) (S : World → Prop) (t : Nat) (i : Nat) (K : Act → World → Prop) (a : Act) (w : World) : Prop :=
  match ops[i]? with
  | none => K a w
  | some o =>
    match t with
    | 0 => ∃ v, YieldsIf P ops (fun _ => True) o v a ∧ K (a.put o.dst v) w
    | 1 => ∃ v, YieldsIf P ops (Le w) o v a ∧ K (a.put o.dst v) w
    | 2 => ∃ v, YieldsIf P ops S o v a ∧ K (a.put o.dst v) w
    | 3 => wpOp P ops Qf i (fun a' w' => (Le w w' ∧ S w') ∧ K a' w') a w
    | _ => wpOp P ops Qf i (fun a' w' => S w' ∧ K a' w') a w

theorem stepT_mono {t i : Nat} {a : Act} {w : World} {K K' : Act → World → Prop} (h : ∀ a w, S w → K a w → K' a w) (hS : S w) (hh : stepT P ops S t i K a w) : stepT P ops S t i K' a w := by
  unfold stepT at *
  split
  · rename_i ho; simp only [ho] at hh; exact h _ _ hS hh
  · rename_i o ho
    simp only [ho] at hh
    match t with
    | 0 => obtain ⟨v, y, k⟩ := hh; exact ⟨v, y, h _ _ hS k⟩
    | 1 => obtain ⟨v, y, k⟩ := hh; exact ⟨v, y, h _ _ hS k⟩
    | 2 => obtain ⟨v, y, k⟩ := hh; exact ⟨v, y, h _ _ hS k⟩
    | 3 => exact wpOp_mono (fun a w ⟨x, k⟩ => ⟨x, h _ _ x.2 k⟩) hh
    | _ + 4 => exact wpOp_mono (fun a w ⟨x, k⟩ => ⟨x, h _ _ x k⟩) hh

/-- Apart: what one puts the other does not look at. -/
theorem yields_put {o o' : Oper} (hs : ∀ cs b, o.op ≠ .select cs b) (hap : ∀ d, o'.dst = some d → d ∉ o.looksAt ops) {C : World → Prop} {v : Value} (a : Act) (u : Value) :
    YieldsIf P ops C o v (a.put o'.dst u) ↔ YieldsIf P ops C o v a := by
  unfold YieldsIf
  rw [execOp_put o hs a o'.dst u hap, wanted_put o a o'.dst u hap]

theorem yields_defers {o : Oper} {C : World → Prop} {v : Value} {a : Act} {ds : List Deferred} : YieldsIf P ops C o v { a with defers := ds } ↔ YieldsIf P ops C o v a := Iff.rfl

theorem yieldsIf_imp {o : Oper} {C D : World → Prop} {v : Value} {a : Act} (h : ∀ w, D w → C w) (hy : YieldsIf P ops C o v a) : YieldsIf P ops D o v a :=
  hy.imp (fun ⟨hw, hv⟩ => ⟨hw, fun w hD => hv w (h w hD)⟩) id

theorem yieldsIf_unique {o : Oper} {C : World → Prop} {u v : Value} {a : Act} {w : World} (hC : C w) (h : YieldsIf P ops C o u a) (k : YieldsIf P ops C o v a) : u = v := by
  rcases h with ⟨h1, h2⟩ | ⟨h1, rfl⟩ <;> rcases k with ⟨k1, k2⟩ | ⟨k1, rfl⟩
  · have := (h2 w hC).symm.trans (k2 w hC); simpa using this
  · rw [h1] at k1; cases k1
  · rw [h1] at k1; cases k1
  · rfl

/-- What an operation leaves of the frame. -/
theorem wpOp_form {i : Nat} {o : Oper} (ho : ops[i]? = some o) {K : Act → World → Prop} {a : Act} {w : World} (h : wpOp P ops Qf i K a w) :
    wpOp P ops Qf i (fun a' w' => (∃ t ds, a' = { (a.put o.dst t) with defers := ds }) ∧ K a' w') a w := by
  unfold wpOp at *
  simp only [ho] at *
  split
  · rename_i hw
    simp only [hw, if_true] at h
    rcases h with h | ⟨_, ⟨_, _, hf⟩⟩
    case inr => exact hf.elim
    refine .inl ?_
    unfold Oper.wp at *
    generalize (execOp a.eval o).run P w = r at *
    cases r with
    | ok n w' =>
      cases n <;> simp only [Oper.upon] at h ⊢
      case value u => exact ⟨⟨u, _, rfl⟩, h⟩
      case skip => exact ⟨⟨undef, _, rfl⟩, h⟩
      case defer d => exact ⟨⟨undef, d :: a.defers, by cases o.dst <;> rfl⟩, h⟩
      case enter f args =>
        refine Calls.mono h fun e w'' he => ?_
        cases e with
        | returned u => exact ⟨⟨u, _, rfl⟩, he⟩
        | panicked c => exact he
        | outgrown => exact he
      case row row args => exact Rows.mono h fun u w'' he => ⟨⟨u, _, rfl⟩, he⟩
    | halt x w' =>
      cases x <;> simp only [Oper.upon] at h ⊢
      case panic u => exact h.elim
  · rename_i hw
    simp only [hw] at h
    exact ⟨⟨undef, _, rfl⟩, h⟩

/-- It does come to something. -/
theorem wpOp_some {i : Nat} {K : Act → World → Prop} {a : Act} {w : World} (h : wpOp P ops Qf i K a w) : ∃ a' w', K a' w' := by
  unfold wpOp at h
  split at h
  · exact ⟨_, _, h⟩
  · rename_i o ho
    split at h
    · rcases h with h | ⟨_, ⟨_, _, hf⟩⟩
      case inr => exact hf.elim
      unfold Oper.wp at h
      generalize (execOp a.eval o).run P w = r at *
      cases r with
      | ok n w' =>
        cases n <;> simp only [Oper.upon] at h
        case value u => exact ⟨_, _, h⟩
        case skip => exact ⟨_, _, h⟩
        case defer d => exact ⟨_, _, h⟩
        case enter f args =>
          obtain ⟨e, w', fr, he, _⟩ := h []
          cases e with
          | returned u => exact ⟨_, _, he⟩
          | panicked c => exact he.elim
          | outgrown => obtain ⟨_, _, hf⟩ := he; exact hf.elim
        case row row args =>
          obtain ⟨v, w', hv, _⟩ := h default []
          exact ⟨_, _, hv⟩
      | halt x w' =>
        cases x <;> simp only [Oper.upon] at h
        case panic u => exact h.elim
    · exact ⟨_, _, h⟩

/-- What has been put aside may be put ahead. -/
theorem wpOp_shift {i : Nat} {oi : Oper} (hi : ops[i]? = some oi) (hs : ∀ cs b, oi.op ≠ .select cs b) {d : Option Tmp} {u : Value} (h1 : ∀ t, d = some t → t ∉ oi.looksAt ops) (h2 : ∀ t, oi.dst = some t → d ≠ some t)
    {K : Act → World → Prop} {a : Act} {w : World} (h : wpOp P ops Qf i (fun a' w' => K (a'.put d u) w') a w) : wpOp P ops Qf i K (a.put d u) w := by
  unfold wpOp at *
  simp only [hi] at *
  rw [wanted_put oi a d u h1]
  split
  · rename_i hw
    simp only [hw, if_true] at h
    rcases h with h | ⟨_, ⟨_, _, hf⟩⟩
    case inr => exact hf.elim
    refine .inl ?_
    unfold Oper.wp at *
    rw [execOp_put oi hs a d u h1]
    generalize (execOp a.eval oi).run P w = r at *
    cases r with
    | ok n w' =>
      cases n <;> simp only [Oper.upon] at h ⊢
      case value x => rw [← Act.put_comm a x u h2]; exact h
      case skip => rw [← Act.put_comm a undef u h2]; exact h
      case defer x =>
        rw [Act.put_defers, ← Act.put_comm _ undef u h2]
        exact h
      case enter f args =>
        refine Calls.mono h fun e w'' he => ?_
        cases e with
        | returned x => simp only at he ⊢; rw [← Act.put_comm a x u h2]; exact he
        | panicked c => exact he
        | outgrown => exact he
      case row row args => exact Rows.mono h fun x w'' he => by rw [← Act.put_comm a x u h2]; exact he
    | halt x w' =>
      cases x <;> simp only [Oper.upon] at h ⊢
      case panic x => exact h.elim
  · rename_i hw
    simp only [hw] at h
    rw [← Act.put_comm a undef u h2]; exact h

/-- TWO STEPS CHANGE PLACES. -/
theorem stepT_swap {x i tx ti : Nat} {ox oi : Oper} (hx : ops[x]? = some ox) (hi : ops[i]? = some oi) (hsx : ∀ cs b, ox.op ≠ .select cs b) (hsi : ∀ cs b, oi.op ≠ .select cs b)
    (hap : ox.apart ops oi = true) (hq : tx ≤ 2 ∨ ti ≤ 2) (h1 : ¬ (tx = 1 ∧ 4 ≤ ti)) (h2 : ¬ (3 ≤ tx ∧ ti = 1)) {K : Act → World → Prop} {a : Act} {w : World}
    (h : stepT P ops S tx x (stepT P ops S ti i K) a w) : stepT P ops S ti i (stepT P ops S tx x K) a w := by
  obtain ⟨p1, p2, p3⟩ := Oper.apart_spec hap
  have p2' : ∀ d, oi.dst = some d → ox.dst ≠ some d := fun d hd he => p2 d he hd
  -- a quiet step, in one form
  have quiet : ∀ (t : Nat), t ≤ 2 → ∀ (j : Nat) (oj : Oper), ops[j]? = some oj → ∃ C : World → World → Prop, (∀ (K : Act → World → Prop) (a : Act) (w : World), stepT P ops S t j K a w ↔ ∃ v, YieldsIf P ops (C w) oj v a ∧ K (a.put oj.dst v) w) ∧
      (t = 0 → ∀ w w', C w' = C w) ∧ (t = 1 → ∀ w w', Le w w' → ∀ z, C w' z → C w z) ∧ (t = 2 → ∀ w w', C w' = C w) ∧ (t = 0 → ∀ w z, C w z) ∧ (t = 2 → ∀ w z, S z → C w z) := by
    intro t ht j oj hj
    have : t = 0 ∨ t = 1 ∨ t = 2 := by omega
    rcases this with rfl | rfl | rfl
    · exact ⟨fun _ _ => True, fun K a w => by simp [stepT, hj], fun _ _ _ => rfl, fun h => absurd h (by decide), fun h => absurd h (by decide), fun _ _ _ => trivial, fun h => absurd h (by decide)⟩
    · exact ⟨fun w => Le w, fun K a w => by simp [stepT, hj], fun h => absurd h (by decide), fun _ w w' hl z hz => Le.trans hl hz, fun h => absurd h (by decide), fun h => absurd h (by decide), fun h => absurd h (by decide)⟩
    · exact ⟨fun _ => S, fun K a w => by simp [stepT, hj], fun h => absurd h (by decide), fun h => absurd h (by decide), fun _ _ _ => rfl, fun h => absurd h (by decide), fun _ _ _ h => h⟩
  have loud : ∀ (t : Nat), 3 ≤ t → ∀ (j : Nat) (oj : Oper), ops[j]? = some oj → ∃ D : World → World → Prop, (∀ (K : Act → World → Prop) (a : Act) (w : World), stepT P ops S t j K a w ↔ wpOp P ops Qf j (fun a' w' => D w w' ∧ K a' w') a w) ∧
      (t = 3 → ∀ w w', D w w' → Le w w') ∧ (∀ w w', D w w' → S w') := by
    intro t ht j oj hj
    by_cases t3 : t = 3
    · subst t3
      exact ⟨fun w w' => Le w w' ∧ S w', fun K a w => by simp [stepT, hj], fun _ _ _ h => h.1, fun _ _ h => h.2⟩
    · obtain ⟨t', rfl⟩ : ∃ t', t = t' + 4 := ⟨t - 4, by omega⟩
      exact ⟨fun _ w' => S w', fun K a w => by simp [stepT, hj], fun h => by omega, fun _ _ h => h⟩
  by_cases cx : tx ≤ 2
  · obtain ⟨Cx, ex, x0, x1, x2, _, _⟩ := quiet tx cx x ox hx
    by_cases ci : ti ≤ 2
    · obtain ⟨Ci, ei, _⟩ := quiet ti ci i oi hi
      rw [ex] at h
      obtain ⟨v, yv, h⟩ := h
      rw [ei] at h
      obtain ⟨u, yu, h⟩ := h
      rw [ei]
      refine ⟨u, (yields_put hsi p1 a v).1 yu, ?_⟩
      rw [ex]
      refine ⟨v, (yields_put hsx p3 a u).2 yv, ?_⟩
      rw [← Act.put_comm a v u p2]
      exact h
    · obtain ⟨Di, ei, di3, diS⟩ := loud ti (by omega) i oi hi
      rw [ex] at h
      obtain ⟨v, yv, h⟩ := h
      rw [ei] at h
      rw [ei]
      have h3 := wpOp_putIf (Q := Qf) hi hap hsx hsi (fun _ _ _ h => h) yv h
      refine wpOp_mono (fun a' w' ⟨y, d, k⟩ => ⟨d, (ex _ _ _).2 ⟨v, ?_, k⟩⟩) h3
      have : tx = 0 ∨ tx = 1 ∨ tx = 2 := by omega
      rcases this with t0 | t1 | t2
      · rw [x0 t0 w w']; exact y
      · exact yieldsIf_imp (x1 t1 w w' (di3 (by omega) w w' d)) y
      · rw [x2 t2 w w']; exact y
  · have ci : ti ≤ 2 := by omega
    obtain ⟨Dx, ex, dx3, dxS⟩ := loud tx (by omega) x ox hx
    obtain ⟨Ci, ei, i0, _, i2, c0, c2⟩ := quiet ti ci i oi hi
    have ti' : ti = 0 ∨ ti = 2 := by omega
    have same : ∀ w', Ci w' = Ci w := fun w' => ti'.elim (fun t => i0 t w w') (fun t => i2 t w w')
    have hold : ∀ w', S w' → Ci w w' := fun w' hS => ti'.elim (fun t => c0 t _ _) (fun t => c2 t _ _ hS)
    rw [ex] at h
    have hf := wpOp_form hx h
    obtain ⟨a1, w1, ⟨t, ds, rfl⟩, hd, hk⟩ := wpOp_some hf
    rw [ei] at hk
    obtain ⟨u, yu, _⟩ := hk
    rw [same w1, yields_defers, yields_put hsi p1] at yu
    rw [ei]
    refine ⟨u, yu, ?_⟩
    rw [ex]
    refine wpOp_shift hx hsx p3 p2 (wpOp_mono ?_ hf)
    rintro a' w' ⟨⟨t', ds', rfl⟩, hd', hk'⟩
    refine ⟨hd', ?_⟩
    rw [ei] at hk'
    obtain ⟨u', yu', k'⟩ := hk'
    rw [same w', yields_defers, yields_put hsi p1] at yu'
    obtain rfl : u' = u := yieldsIf_unique (hold w' (dxS _ _ hd')) yu' yu
    exact k'

/-- The steps of a list of numbers. -/
def wpT (P : Program) (ops : Array Oper) (S : World → Prop) (tg : Nat → Nat) (Q : Act → World → Prop) : List Nat → Act → World → Prop
  | [], a, w => Q a w
  | i :: rest, a, w => stepT P ops S (tg i) i (wpT P ops S tg Q rest) a w

structure Fits (P : Program) (ops : Array Oper) (tg : Nat → Nat) : Prop where
  sel : Region.noSelect ops = true
  back : ∀ j o, ops[j]? = some o → ∀ e ∈ o.after, Region.binds .any e = true → e.on < j
  pair : ∀ i j, i < j → j < ops.size → Anc ops i j ∨ ∃ x y, ops[i]? = some x ∧ ops[j]? = some y ∧ x.apart ops y = true ∧ (tg i ≤ 2 ∨ tg j ≤ 2) ∧ ¬ (tg i = 1 ∧ 4 ≤ tg j) ∧ ¬ (3 ≤ tg i ∧ tg j = 1)

theorem wpT_front {tg : Nat → Nat} (hF : Fits P ops tg) {Q : Act → World → Prop} {i : Nat} (hi : i < ops.size) {s : List Nat} : ∀ (p : List Nat) (a : Act) (w : World), S w → (∀ x ∈ p, x < i ∧ ¬ Anc ops x i) →
    wpT P ops S tg Q (p ++ i :: s) a w → wpT P ops S tg Q (i :: (p ++ s)) a w
  | [], _, _, _, _, h => h
  | x :: p, a, w, hS, hp, h => by
    have hx := hp x (by simp)
    rcases hF.pair x i hx.1 hi with hA | ⟨ox, oi, e1, e2, hap, hq, h1, h2⟩
    · exact absurd hA hx.2
    have h' : stepT P ops S (tg x) x (stepT P ops S (tg i) i (wpT P ops S tg Q (p ++ s))) a w :=
      stepT_mono (fun a w hS k => wpT_front hF hi p a w hS (fun y hy => hp y (by simp [hy])) k) hS h
    exact stepT_swap e1 e2 (Region.noSelect_spec hF.sel x ox · · e1) (Region.noSelect_spec hF.sel i oi · · e2) hap hq h1 h2 h'

/-- What is not listed. -/
def rem (ops : Array Oper) (listed : Array Bool) : List Nat := (List.range ops.size).filter fun i => !listed.getD i true

theorem stepT_wpOp {t i : Nat} {Q : Exit → Act → World → Prop} {K : Act → World → Prop} {a : Act} {w : World} (hS : S w) (hi : i < ops.size) (h : stepT P ops S t i K a w) : wpOp P ops Q i (fun a' w' => S w' ∧ K a' w') a w := by
  have ho : ops[i]? = some ops[i] := Array.getElem?_eq_getElem hi
  have toQ : ∀ {K' : Act → World → Prop}, wpOp P ops Qf i K' a w → wpOp P ops Q i K' a w := by
    intro K' h
    unfold wpOp at *
    simp only [ho] at *
    split
    · rename_i hw
      simp only [hw, if_true] at h
      rcases h with h | ⟨_, ⟨_, _, hf⟩⟩
      case inr => exact hf.elim
      refine .inl ?_
      unfold Oper.wp at *
      generalize (execOp a.eval ops[i]).run P w = r at *
      cases r with
      | ok n w' =>
        cases n <;> simp only [Oper.upon] at h ⊢ <;> first
          | exact h
          | exact Calls.mono h (fun e w'' he => by
              cases e with
              | returned u => exact he
              | panicked c => exact he.elim
              | outgrown => obtain ⟨_, _, hf⟩ := he; exact hf.elim)
      | halt x w' =>
        cases x <;> simp only [Oper.upon] at h ⊢
        case panic u => exact h.elim
    · rename_i hw
      simp only [hw] at h
      exact h
  unfold stepT at h
  simp only [ho] at h
  match t with
  | 0 => obtain ⟨v, y, k⟩ := h; exact YieldsIf.wpOp ho y trivial ⟨hS, k⟩
  | 1 => obtain ⟨v, y, k⟩ := h; exact YieldsIf.wpOp ho y (Le.refl w) ⟨hS, k⟩
  | 2 => obtain ⟨v, y, k⟩ := h; exact YieldsIf.wpOp ho y hS ⟨hS, k⟩
  | 3 => exact toQ (wpOp_mono (fun a w ⟨x, k⟩ => ⟨x.2, k⟩) h)
  | _ + 4 => exact toQ h

theorem filter_split {p : Nat → Bool} {i : Nat} : ∀ {n : Nat}, i < n → p i = true →
    ∃ l s, (List.range n).filter p = l ++ i :: s ∧ (∀ x ∈ l, x < i ∧ p x = true) ∧ ∀ q : Nat → Bool, (∀ x, x ≠ i → q x = p x) → q i = false → (List.range n).filter q = l ++ s := by
  intro n hi hp
  obtain ⟨m, rfl⟩ : ∃ m, n = i + 1 + m := ⟨n - (i + 1), by omega⟩
  have e : List.range (i + 1 + m) = List.range i ++ i :: List.range' (i + 1) m := by
    rw [List.range_eq_range', List.range_eq_range', show i + 1 + m = i + (m + 1) from by omega, ← List.range'_append_1, Nat.zero_add, List.range'_succ]
  refine ⟨(List.range i).filter p, (List.range' (i + 1) m).filter p, ?_, ?_, ?_⟩
  · rw [e, List.filter_append, List.filter_cons, if_pos hp]
  · intro x hx
    rw [List.mem_filter, List.mem_range] at hx
    exact hx
  · intro q hq h0
    rw [e, List.filter_append, List.filter_cons, if_neg (by simp [h0])]
    congr 1
    · exact List.filter_congr fun x hx => hq x (by rw [List.mem_range] at hx; omega)
    · exact List.filter_congr fun x hx => hq x (by rw [List.mem_range'] at hx; obtain ⟨k, _, rfl⟩ := hx; omega)

theorem wpAny_of_text {tg : Nat → Nat} (hF : Fits P ops tg) {Q : Exit → Act → World → Prop} : ∀ (fuel : Nat) (listed : Array Bool) (a : Act) (w : World), listed.size = ops.size →
    (rem ops listed).length = fuel → Closed ops listed → S w → wpT P ops S tg (Q .normal) (rem ops listed) a w → wpAny P .any ops Q fuel listed a w
  | 0, listed, a, w, hsz, hl, hc, hS, h => by
    have hnil := List.eq_nil_of_length_eq_zero hl
    rw [hnil] at h
    refine ⟨?_, h⟩
    cases hr : Region.ready .any ops listed with
    | nil => rfl
    | cons j js =>
      obtain ⟨h0, o, ho, _⟩ := mem_ready.1 (hr ▸ List.mem_cons_self : j ∈ Region.ready .any ops listed)
      have : j ∈ rem ops listed := by
        unfold rem
        rw [List.mem_filter, List.mem_range]
        exact ⟨(Array.getElem?_eq_some_iff.1 ho).1, by simpa using h0⟩
      rw [hnil] at this
      cases this
  | fuel + 1, listed, a, w, hsz, hl, hc, hS, h => by
    constructor
    · intro hr
      exfalso
      cases hrem : rem ops listed with
      | nil => rw [hrem] at hl; cases hl
      | cons i0 s =>
        have hm : i0 ∈ rem ops listed := by rw [hrem]; simp
        -- the smallest of them is ready
        have key : ∀ n i, i ≤ n → i ∈ rem ops listed → False := by
          intro n
          induction n with
          | zero =>
            intro i hin hi
            unfold rem at hi
            rw [List.mem_filter, List.mem_range] at hi
            have : i ∈ Region.ready .any ops listed := mem_ready.2 ⟨by simpa using hi.2, ops[i], Array.getElem?_eq_getElem hi.1, fun e he hb => by
              have := hF.back i _ (Array.getElem?_eq_getElem hi.1) e he hb; omega⟩
            rw [hr] at this; cases this
          | succ n ih =>
            intro i hin hi
            have hi' := hi
            unfold rem at hi'
            rw [List.mem_filter, List.mem_range] at hi'
            have : i ∈ Region.ready .any ops listed := mem_ready.2 ⟨by simpa using hi'.2, ops[i], Array.getElem?_eq_getElem hi'.1, fun e he hb => by
              have hlt := hF.back i _ (Array.getElem?_eq_getElem hi'.1) e he hb
              cases hg : listed.getD e.on false with
              | true => rfl
              | false =>
                exfalso
                refine ih e.on (by omega) ?_
                unfold rem
                rw [List.mem_filter, List.mem_range]
                refine ⟨by omega, ?_⟩
                have hs : e.on < listed.size := by omega
                simp only [Array.getD_eq_getD_getElem?, Array.getElem?_eq_getElem hs, Option.getD_some] at hg ⊢
                simp [hg]⟩
            rw [hr] at this; cases this
        exact key i0 i0 (Nat.le_refl _) hm
    · intro i hi
      obtain ⟨h0, o, ho, hall⟩ := mem_ready.1 hi
      have hlt : i < ops.size := (Array.getElem?_eq_some_iff.1 ho).1
      obtain ⟨l, s, e1, e2, e3⟩ := filter_split (p := fun i => !listed.getD i true) hlt (by simp [h0])
      have hset : rem ops (listed.setIfInBounds i true) = l ++ s := by
        unfold rem
        refine e3 _ (fun x hx => by rw [getD_set_ne true (Ne.symm hx)]) ?_
        simp [Array.getD_eq_getD_getElem?, hsz, hlt]
      have hrem : rem ops listed = l ++ i :: s := e1
      rw [hrem] at h hl
      have hno : ∀ x ∈ l, x < i ∧ ¬ Anc ops x i := fun x hx => ⟨(e2 x hx).1, fun hA => by
        have h1 := anc_listed hc hA (fun o' ho' e he hb => by rw [ho] at ho'; cases ho'; exact hall e he hb)
        have h2 : listed.getD x true = false := by simpa using (e2 x hx).2
        have hs : x < listed.size := by have := (e2 x hx).1; omega
        simp only [Array.getD_eq_getD_getElem?, Array.getElem?_eq_getElem hs, Option.getD_some] at h1 h2
        rw [h1] at h2; cases h2⟩
      have h' := wpT_front hF hlt l a w hS hno h
      refine wpOp_mono (fun a' w' ⟨hS', k⟩ => wpAny_of_text hF fuel _ a' w' (by simp [hsz]) ?_ ?_ hS' ?_) (stepT_wpOp hS hlt h')
      · rw [hset]; simp only [List.length_append, List.length_cons] at hl ⊢; omega
      · intro j oj hj hlj hs e he hb
        by_cases hji : j = i
        · subst hji
          rw [ho] at hj; cases hj
          have := hall e he hb
          have hne : e.on ≠ j := by have := hF.back j _ ho e he hb; omega
          rw [getD_set_ne false (Ne.symm hne)]; exact this
        · rw [getD_set_ne true (Ne.symm hji)] at hlj
          have h1 := hc j oj hj hlj (by simpa using hs) e he hb
          by_cases hei : e.on = i
          · subst hei
            have hs' : e.on < listed.size := by omega
            simp [Array.getD_eq_getD_getElem?, hs']
          · rw [getD_set_ne false (Ne.symm hei)]; exact h1
      · rw [hset]; exact k

theorem fits_of_plan (h : planB P ops = true) : Fits P ops (tagAt P ops (Region.before ops)) := by
  unfold planB at h
  simp only [Bool.and_eq_true, List.all_eq_true, List.mem_range] at h
  obtain ⟨⟨h1, h2⟩, h3⟩ := h
  refine ⟨h1, fun j o ho e he hb => ?_, fun i j hij hj => ?_⟩
  · have h4 := h2 j (Array.getElem?_eq_some_iff.1 ho).1
    rw [ho] at h4
    simp only [Array.all_eq_true_iff_forall_mem, Bool.or_eq_true, Bool.not_eq_true', decide_eq_true_eq] at h4
    rcases h4 e he with h5 | h5
    · rw [hb] at h5; cases h5
    · exact h5
  · have h4 := h3 j hj i hij
    rw [Bool.or_eq_true] at h4
    rcases h4 with h4 | h4
    · exact .inl (before_anc h4)
    · have hi : i < ops.size := by omega
      refine .inr ⟨ops[i], ops[j], Array.getElem?_eq_getElem hi, Array.getElem?_eq_getElem hj, ?_⟩
      unfold pairOk at h4
      simp only [Array.getElem?_eq_getElem hi, Array.getElem?_eq_getElem hj, Bool.and_eq_true, Bool.or_eq_true, decide_eq_true_eq, Bool.not_eq_true', Bool.and_eq_false_iff, beq_eq_false_iff_ne, decide_eq_false_iff_not] at h4
      obtain ⟨⟨⟨ha, hb⟩, hc⟩, hd⟩ := h4
      have le4 : tagAt P ops (Region.before ops) j ≤ 4 := by
        unfold tagAt kindAt
        rw [Array.getElem?_eq_getElem hj]
        simp only
        have : kindOf P ops[j].op ≤ 4 := by
          unfold kindOf
          repeat' split
          all_goals omega
        split
        · split <;> omega
        · exact this
      exact ⟨ha, hb, fun ⟨x, y⟩ => by rcases hc with hc | hc <;> omega, fun ⟨x, y⟩ => by rcases hd with hd | hd <;> omega⟩

/-- One step of the user's form. -/
def stepO (P : Program) (ops : Array Oper) (S : World → Prop) (t : Nat) (o : Oper) (K : Act → World → Prop) (a : Act) (w : World) : Prop :=
  match t with
  | 0 => ∃ v, YieldsIf P ops (fun _ => True) o v a ∧ K (a.put o.dst v) w
  | 1 => ∃ v, YieldsIf P ops (Le w) o v a ∧ K (a.put o.dst v) w
  | 2 => ∃ v, YieldsIf P ops S o v a ∧ K (a.put o.dst v) w
  | 3 => if Region.wanted o (yielded ops a.tmps) then o.wp P a w (fun a' w' => (Le w w' ∧ S w') ∧ K a' w') Qf else S w ∧ K (a.put o.dst undef) w
  | _ => if Region.wanted o (yielded ops a.tmps) then o.wp P a w (fun a' w' => S w' ∧ K a' w') Qf else S w ∧ K (a.put o.dst undef) w

/-- The user's form: the operations in the text's order; each with its tag. -/
def wpTG (P : Program) (ops : Array Oper) (S : World → Prop) (Q : Act → World → Prop) : List Oper → List Nat → Act → World → Prop
  | [], _, a, w => Q a w
  | o :: rest, ts, a, w => stepO P ops S (ts.headD 4) o (wpTG P ops S Q rest ts.tail) a w

def tagsOf (P : Program) (ops : Array Oper) : List Nat := let b := Region.before ops; (List.range ops.size).map (tagAt P ops b)

theorem stepT_of_O {t k : Nat} {o : Oper} (h0 : ops[k]? = some o) {K : Act → World → Prop} {a : Act} {w : World} (h : stepO P ops S t o K a w) : stepT P ops S t k K a w := by
  unfold stepO at h
  unfold stepT
  simp only [h0]
  split at h
  · exact h
  · exact h
  · exact h
  · simp only [wpOp, h0]
    split
    · rename_i hw; rw [if_pos hw] at h; exact .inl h
    · rename_i hw; rw [if_neg hw] at h; exact ⟨⟨Le.refl w, h.1⟩, h.2⟩
  · rename_i n0 n1 n2 n3
    match t, n0, n1, n2, n3 with
    | 0, n0, _, _, _ => exact absurd rfl n0
    | 1, _, n1, _, _ => exact absurd rfl n1
    | 2, _, _, n2, _ => exact absurd rfl n2
    | 3, _, _, _, n3 => exact absurd rfl n3
    | t + 4, _, _, _, _ =>
      simp only [wpOp, h0]
      split
      · rename_i hw; rw [if_pos hw] at h; exact .inl h
      · rename_i hw; rw [if_neg hw] at h; exact ⟨h.1, h.2⟩

theorem wpT_of_list {tg : Nat → Nat} {Q : Act → World → Prop} : ∀ (l : List Oper) (ts : List Nat) (k : Nat), (∀ j, l[j]? = ops[k + j]?) → (∀ j, j < l.length → tg (k + j) = ts.getD j 4) → ∀ a w, S w → wpTG P ops S Q l ts a w → wpT P ops S tg Q (List.range' k l.length) a w
  | [], _, _, _, _, _, _, _, h => h
  | o :: l, ts, k, hl, ht, a, w, hS, h => by
    have h0 : ops[k]? = some o := by simpa using (hl 0).symm
    have hk : tg k = ts.headD 4 := by
      have := ht 0 (by simp)
      rw [Nat.add_zero] at this
      rw [this]; cases ts <;> rfl
    simp only [List.length_cons, List.range'_succ, wpT]
    rw [hk]
    unfold wpTG at h
    refine stepT_mono (fun a w hS k' => wpT_of_list l ts.tail (k + 1) (fun j => by have := hl (j + 1); simpa [Nat.add_assoc, Nat.add_comm 1 j] using this) (fun j hj => by
      have := ht (j + 1) (by simp; omega)
      rw [show k + 1 + j = k + (j + 1) from by omega, this]
      cases ts <;> rfl) a w hS k') hS (stepT_of_O h0 h)

/-- ████ A REGION THAT DRAWS ITS ORDER, IN THE TEXT's ORDER ████ -/
theorem wp_region_text {id : Nat} {l : List Oper} {Q : Exit → Act → World → Prop} {a : Act} {w : World} (S : World → Prop) (ts : List Nat) (hm : P.follows .mixedOrders = true)
    (hB : (planB P l.toArray && (tagsOf P l.toArray == ts)) = true) (hS : S w.drew) (h : wpTG P l.toArray S (Q .normal) l ts a w.drew) : (Code.region id l.toArray true).wp P Q a w := by
  rw [Bool.and_eq_true, beq_iff_eq] at hB
  obtain ⟨hB, hts⟩ := hB
  refine wp_region_any hm ?_
  have hF := fits_of_plan hB
  have full : rem l.toArray (Array.replicate l.toArray.size false) = List.range' 0 l.length := by
    unfold rem
    rw [List.filter_eq_self.2]
    · rw [List.range_eq_range']; simp
    · intro i hi
      rw [List.mem_range] at hi
      simp only [Array.getD_eq_getD_getElem?, Array.getElem?_replicate]
      rw [if_pos hi]; rfl
  refine wpAny_of_text (S := S) hF _ _ a _ (by simp) (by rw [full]; simp) ?_ hS ?_
  · intro j o _ hl hs
    simp only [Array.size_replicate] at hs
    simp only [Array.getD_eq_getD_getElem?, Array.getElem?_replicate] at hl
    rw [if_pos hs] at hl
    cases hl
  · rw [full]
    refine wpT_of_list l ts 0 (by simp) (fun j hj => ?_) a _ hS h
    rw [← hts]
    have hj' : j < l.toArray.size := by simpa using hj
    simp [tagsOf, List.getD_eq_getElem?_getD, List.getElem?_range hj]

/-! Steps. -/
section
variable {Q : Act → World → Prop} {o : Oper} {rest : List Oper} {ts : List Nat} {a : Act} {w : World} {v : Value}
theorem tl_nil (h : Q a w) : wpTG P ops S Q [] ts a w := h
theorem tl_pure (hw : Region.wanted o (yielded ops a.tmps) = true) (h : ∀ w2, (execOp a.eval o).run P w2 = .ok (.value v) w2) (k : wpTG P ops S Q rest ts (a.put o.dst v) w) : wpTG P ops S Q (o :: rest) (0 :: ts) a w :=
  ⟨v, .inl ⟨hw, fun w2 _ => h w2⟩, k⟩
theorem tl_read (hw : Region.wanted o (yielded ops a.tmps) = true) (h : ∀ w2, Le w w2 → (execOp a.eval o).run P w2 = .ok (.value v) w2) (k : wpTG P ops S Q rest ts (a.put o.dst v) w) : wpTG P ops S Q (o :: rest) (1 :: ts) a w :=
  ⟨v, .inl ⟨hw, fun w2 h2 => h w2 h2⟩, k⟩
theorem tl_readS (hw : Region.wanted o (yielded ops a.tmps) = true) (h : ∀ w2, S w2 → (execOp a.eval o).run P w2 = .ok (.value v) w2) (k : wpTG P ops S Q rest ts (a.put o.dst v) w) : wpTG P ops S Q (o :: rest) (2 :: ts) a w :=
  ⟨v, .inl ⟨hw, fun w2 h2 => h w2 h2⟩, k⟩
theorem tl_skip {t : Nat} (hw : Region.wanted o (yielded ops a.tmps) = false) (hS : S w) (k : wpTG P ops S Q rest ts (a.put o.dst undef) w) : wpTG P ops S Q (o :: rest) (t :: ts) a w := by
  unfold wpTG stepO
  simp only [List.headD_cons, List.tail_cons, hw, Bool.false_eq_true, if_false]
  split
  · exact ⟨undef, .inr ⟨hw, rfl⟩, k⟩
  · exact ⟨undef, .inr ⟨hw, rfl⟩, k⟩
  · exact ⟨undef, .inr ⟨hw, rfl⟩, k⟩
  · exact ⟨hS, k⟩
  · exact ⟨hS, k⟩
theorem tl_alloc (hw : Region.wanted o (yielded ops a.tmps) = true) (h : o.wp P a w (fun a' w' => (Le w w' ∧ S w') ∧ wpTG P ops S Q rest ts a' w') Qf) : wpTG P ops S Q (o :: rest) (3 :: ts) a w := by
  unfold wpTG stepO
  simp only [List.headD_cons, List.tail_cons, hw, if_true]
  exact h
theorem tl_loud (hw : Region.wanted o (yielded ops a.tmps) = true) (h : o.wp P a w (fun a' w' => S w' ∧ wpTG P ops S Q rest ts a' w') Qf) : wpTG P ops S Q (o :: rest) (4 :: ts) a w := by
  unfold wpTG stepO
  simp only [List.headD_cons, List.tail_cons, hw, if_true]
  exact h
def oneTy (P : Program) (ty : TypeId) : Bool := match P.underlying ty with | some (.struct _) | some (.array ..) | none => false | some _ => true
def rowTy (P : Program) (ty : TypeId) (n : Nat) : Bool := (match P.underlying ty with | some (.struct _) | some (.array ..) => true | _ => false) && (P.info? ty).map (·.size) == some n

theorem Le.cell {w w2 : World} (h : Le w w2) {p : Addr} {v : Value} (hc : w.cell? p = some v) : w2.cell? p = some v := by
  unfold World.cell? at *
  cases hb : w.heap[p.block]? with
  | none => simp [hb] at hc
  | some o => rw [h _ _ hb]; rw [hb] at hc; exact hc
theorem run_load_one {ty : TypeId} {p : Addr} {w2 : World} (ht : oneTy P ty = true) (hc : w2.cell? p = some v) : (Instr.loadAt ty (.pointer (some p))).run P w2 = .ok v w2 := by
  unfold oneTy at ht
  cases hu : P.underlying ty with
  | none => simp [hu] at ht
  | some d =>
    have hagg : (isAgg ty).run P w2 = .ok false w2 := by
      unfold isAgg
      rw [Sem.run_bind, run_underlying hu w2]
      cases d <;> simp_all
    simp [Instr.loadAt, Instr.sureAddr, loadVar, Sem.run_bind, hagg, load, Sem.run, hc]
theorem execLoad {ty : TypeId} {x : Operand} (ho : o.op = .load ty x) {p : Addr} (he : a.eval x = .pointer (some p)) {w2 : World} (h : (Instr.loadAt ty (.pointer (some p))).run P w2 = .ok v w2) : (execOp a.eval o).run P w2 = .ok (.value v) w2 := by
  unfold execOp
  simp only [ho, he, Sem.run_bind, h, Result.andThen_ok, Sem.run_pure]
theorem tl_load (hw : Region.wanted o (yielded ops a.tmps) = true) {ty : TypeId} {x : Operand} {p : Addr} (ho : o.op = .load ty x) (he : a.eval x = .pointer (some p)) (ht : oneTy P ty = true) (hc : w.cell? p = some v)
    (k : wpTG P ops S Q rest ts (a.put o.dst v) w) : wpTG P ops S Q (o :: rest) (1 :: ts) a w :=
  tl_read hw (fun _ hl => execLoad ho he (run_load_one ht (hl.cell hc))) k
theorem tl_loadS (hw : Region.wanted o (yielded ops a.tmps) = true) {ty : TypeId} {x : Operand} {p : Addr} (ho : o.op = .load ty x) (he : a.eval x = .pointer (some p)) (ht : oneTy P ty = true) (hc : ∀ w2, S w2 → w2.cell? p = some v)
    (k : wpTG P ops S Q rest ts (a.put o.dst v) w) : wpTG P ops S Q (o :: rest) (2 :: ts) a w :=
  tl_readS hw (fun w2 hl => execLoad ho he (run_load_one ht (hc w2 hl))) k
theorem Le.range {w w2 : World} (h : Le w w2) {b i : Nat} {cs : List Value} (hc : w.rangeAt b i cs) : w2.rangeAt b i cs := fun j v hv => h.cell (hc j v hv)
theorem run_load_row {ty : TypeId} {b i : Nat} {cs : List Value} {w2 : World} (ht : rowTy P ty cs.length = true) (hc : w2.rangeAt b i cs) : (Instr.loadAt ty (.pointer (some ⟨b, i, none⟩))).run P w2 = .ok (.agg cs.toArray) w2 := by
  unfold rowTy at ht
  rw [Bool.and_eq_true, beq_iff_eq] at ht
  cases hu : P.underlying ty with
  | none => simp [hu] at ht
  | some d => exact run_loadAt_mid w2 b i ty cs d hc hu (by cases d <;> simp_all) ht.2
theorem tl_loadRow (hw : Region.wanted o (yielded ops a.tmps) = true) {ty : TypeId} {x : Operand} {b i : Nat} {cs : List Value} (ho : o.op = .load ty x) (he : a.eval x = .pointer (some ⟨b, i, none⟩)) (hc : w.rangeAt b i cs) (ht : rowTy P ty cs.length = true)
    (k : wpTG P ops S Q rest ts (a.put o.dst (.agg cs.toArray)) w) : wpTG P ops S Q (o :: rest) (1 :: ts) a w :=
  tl_read hw (fun _ hl => execLoad ho he (run_load_row ht (hl.range hc))) k
theorem tl_loadRowS (hw : Region.wanted o (yielded ops a.tmps) = true) {ty : TypeId} {x : Operand} {b i : Nat} {cs : List Value} (ho : o.op = .load ty x) (he : a.eval x = .pointer (some ⟨b, i, none⟩)) (hc : ∀ w2, S w2 → w2.rangeAt b i cs) (ht : rowTy P ty cs.length = true)
    (k : wpTG P ops S Q rest ts (a.put o.dst (.agg cs.toArray)) w) : wpTG P ops S Q (o :: rest) (2 :: ts) a w :=
  tl_readS hw (fun w2 hl => execLoad ho he (run_load_row ht (hc w2 hl))) k
theorem Le.alloc_drew (w : World) (x : Obj) : Le w.drew (w.alloc x).drew := fun k o h => by
  have hlt : k < w.heap.size := (Array.getElem?_eq_some_iff.1 h).1
  show (w.alloc x).heap[k]? = some o
  rw [Below.heap_alloc w x k hlt]; exact h
theorem Le.alloc (w : World) (x : Obj) : Le w (w.alloc x) := fun k o h => by
  have hlt := (Array.getElem?_eq_some_iff.1 h).1
  rw [Below.heap_alloc w x k hlt]; exact h
end
end
end Go.Proofs.YthllhjdaknmlbaaDoor.Txt
