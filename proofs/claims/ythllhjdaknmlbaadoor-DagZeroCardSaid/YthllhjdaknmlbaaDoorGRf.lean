/-
  petrelref06: Has, Compare. petrelref06.Compare. petrelref06.With. petrelref06.With of one that is not there. petrelref06.With at nil. petrelref06.With of a row of one's own; Set. petrelref06.Set. petrelref06: Is, Both. petrelref06.Both. petrelref06: Without. petrelref06: Less.
-/
import Derived.Test.YthllhjdaknmlbaaDoorGIf
import Derived.Test.YthllhjdaknmlbaaDoorGSr
set_option linter.unusedVariables false
set_option linter.unusedSimpArgs false

namespace Go.Proofs.YthllhjdaknmlbaaDoor
open Go.RowKit
namespace Ids
open Oct
theorem cmpL_step : ∀ (x y : List UInt8), x.length = y.length → ∀ (k : Nat) (a b : UInt8), x.take k = y.take k → x[k]? = some a → y[k]? = some b → IdL.cmpL x y = if a.toNat < b.toNat then -1 else if b.toNat < a.toNat then 1 else IdL.cmpL x y
  | [], _, _, k, a, b, _, h, _ => by simp at h
  | _ :: _, [], h, _, _, _, _, _, _ => by simp at h
  | u :: x, v :: y, hl, 0, a, b, _, ha, hb => by
    simp only [List.getElem?_cons_zero, Option.some.injEq] at ha hb
    subst ha hb
    unfold IdL.cmpL
    split
    · rfl
    · split
      · rfl
      · rfl
  | u :: x, v :: y, hl, k + 1, a, b, ht, ha, hb => by
    simp only [List.take_succ_cons, List.cons.injEq] at ht
    obtain ⟨rfl, ht⟩ := ht
    have := cmpL_step x y (by simpa using hl) k a b ht (by simpa using ha) (by simpa using hb)
    unfold IdL.cmpL
    rw [if_neg (Nat.lt_irrefl _), if_neg (Nat.lt_irrefl _)]
    exact this
end Ids
end Go.Proofs.YthllhjdaknmlbaaDoor


namespace Go.Proofs.YthllhjdaknmlbaaDoor
open Go.RowKit
namespace Ids
open Oct
end Ids
end Go.Proofs.YthllhjdaknmlbaaDoor


namespace Go.Proofs.YthllhjdaknmlbaaDoor
open Go.RowKit
namespace Ids
open Oct
theorem At.first {w : World} {a : Option Addr} {n : Nat} {els : List (List UInt8)} (h : At w a n els) {k : Nat} (hk : k ≤ n) : At w a k (els.take k) := by
  refine ⟨by rw [List.length_take, h.len]; omega, fun x hx => h.size x (List.mem_of_mem_take hx), Nat.le_trans hk h.most, ?_⟩
  rcases h.lay with e | ⟨b, off, e, hb, hr⟩
  · exact .inl (by omega)
  · refine .inr ⟨b, off, e, hb, fun i x hi => hr i x ?_⟩
    rw [List.getElem?_take] at hi
    split at hi
    · exact hi
    · cases hi
theorem At.rest {w : World} {b off n : Nat} {els : List (List UInt8)} (h : At w (some ⟨b, off, none⟩) n els) {k : Nat} (hk : k ≤ n) : At w (some ⟨b, off + k * 32, none⟩) (n - k) (els.drop k) := by
  refine ⟨by rw [List.length_drop, h.len], fun x hx => h.size x (List.mem_of_mem_drop hx), Nat.le_trans (Nat.sub_le _ _) h.most, ?_⟩
  rcases h.lay with e | ⟨b', off', e, hb, hr⟩
  · exact .inl (by omega)
  · cases e
    refine .inr ⟨b, off + k * 32, rfl, hb, fun i x hi => ?_⟩
    rw [List.getElem?_drop] at hi
    have := hr (k + i) x hi
    rwa [show off + (k + i) * 32 = off + k * 32 + i * 32 by omega] at this
theorem At.rest0 {w : World} {a : Option Addr} {n : Nat} {els : List (List UInt8)} (h : At w a n els) (a' : Option Addr) : At w a' 0 (els.drop n) := by
  have e : els.drop n = [] := List.drop_of_length_le (by rw [h.len]; exact Nat.le_refl _)
  rw [e]
  exact ⟨rfl, by simp, Nat.zero_le _, .inl rfl⟩
theorem while_at {p : List UInt8 → Bool} : ∀ (l : List (List UInt8)) (k : Nat), (∀ (j : Nat) (y : List UInt8), j < k → l[j]? = some y → p y = true) → (l.length ≤ k ∨ ∃ y, l[k]? = some y ∧ p y = false) → l.takeWhile p = l.take k ∧ l.dropWhile p = l.drop k
  | [], k, _, _ => by simp
  | x :: l, 0, _, h2 => by
    rcases h2 with h | ⟨y, hy, hp⟩
    · simp at h
    · simp at hy
      subst hy
      simp [hp]
  | x :: l, k + 1, h1, h2 => by
    have hx : p x = true := h1 0 x (by omega) rfl
    obtain ⟨e1, e2⟩ := while_at l k (fun j y hj hy => h1 (j + 1) y (by omega) (by simpa using hy)) (by
      rcases h2 with h | ⟨y, hy, hp⟩
      · exact .inl (by simpa using h)
      · exact .inr ⟨y, by simpa using hy, hp⟩)
    simp [hx, e1, e2]
theorem with_at {l : List (List UInt8)} {x : List UInt8} (hx : x ∉ l) {k : Nat} (h1 : ∀ (j : Nat) (y : List UInt8), j < k → l[j]? = some y → IdL.cmpL y x < 0) (h2 : l.length ≤ k ∨ ∃ y, l[k]? = some y ∧ 0 ≤ IdL.cmpL y x) : l.take k ++ [x] ++ l.drop k = IdL.withL l x := by
  unfold IdL.withL
  rw [if_neg hx]
  obtain ⟨e1, e2⟩ := while_at (p := fun y => decide (IdL.cmpL y x < 0)) l k (fun j y hj hy => decide_eq_true (h1 j y hj hy)) (by
    rcases h2 with h | ⟨y, hy, hp⟩
    · exact .inl h
    · exact .inr ⟨y, hy, decide_eq_false (by omega)⟩)
  rw [e1, e2]
  simp
end Ids
end Go.Proofs.YthllhjdaknmlbaaDoor


namespace Go.Proofs.YthllhjdaknmlbaaDoor
open Go.RowKit
namespace Ids
open Oct
/-- What was made since, and a row that is not of the old. -/
def Grown (w0 w : World) (v : Value) : Prop := Keep (fun _ => False) w0 w ∧ ∀ k, v.ownBlock = some k → w0.heap.size ≤ k
theorem grown_app {w0 w w' : World} {v v' : Value} (h : Keep (fun _ => False) w0 w) (hv : ∀ k, v.ownBlock = some k → w0.heap.size ≤ k) (k : Keep (fun k => v.ownBlock = some k) w w') (ha : v'.ownBlock = v.ownBlock ∨ v'.ownBlock = some w.heap.size) : Grown w0 w' v' := by
  refine ⟨h.trans' k (fun _ _ h => h) (fun k hk e => by have := hv k e; omega), fun k hk => ?_⟩
  rcases ha with e | e
  · exact hv k (e ▸ hk)
  · rw [e] at hk
    have := h.size
    have e' := Option.some.inj hk
    omega
end Ids
end Go.Proofs.YthllhjdaknmlbaaDoor


namespace Go.Proofs.YthllhjdaknmlbaaDoor
open Go.RowKit
namespace Ids
open Oct
theorem At.nil (w : World) (a : Option Addr) : At w a 0 [] := ⟨rfl, by simp, Nat.zero_le _, .inl rfl⟩
end Ids
end Go.Proofs.YthllhjdaknmlbaaDoor


namespace Go.Proofs.YthllhjdaknmlbaaDoor
open Go.RowKit
namespace Ids
open Oct
end Ids
end Go.Proofs.YthllhjdaknmlbaaDoor


namespace Go.Proofs.YthllhjdaknmlbaaDoor
open Go.RowKit
namespace Ids
open Oct
end Ids
end Go.Proofs.YthllhjdaknmlbaaDoor


namespace Go.Proofs.YthllhjdaknmlbaaDoor
open Go.RowKit
namespace Ids
open Oct
end Ids
end Go.Proofs.YthllhjdaknmlbaaDoor


namespace Go.Proofs.YthllhjdaknmlbaaDoor
open Go.RowKit
namespace Ids
open Oct
end Ids
end Go.Proofs.YthllhjdaknmlbaaDoor


namespace Go.Proofs.YthllhjdaknmlbaaDoor
open Go.RowKit
namespace Ids
open Oct
end Ids
end Go.Proofs.YthllhjdaknmlbaaDoor


namespace Go.Proofs.YthllhjdaknmlbaaDoor
open Go.RowKit
namespace Ids
open Oct
end Ids
end Go.Proofs.YthllhjdaknmlbaaDoor
