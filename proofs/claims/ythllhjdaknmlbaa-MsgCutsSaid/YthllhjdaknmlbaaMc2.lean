/-
  msg.Cut: messages with ids, in memory.
-/
import Derived.Test.YthllhjdaknmlbaaMc1
import Derived.Test.YthllhjdaknmlbaaClo
import Derived.Test.YthllhjdaknmlbaaRows4
set_option linter.unusedVariables false
set_option linter.unusedSimpArgs false
namespace Go.Proofs.Ythllhjdaknmlbaa
open Go.RowKit
namespace Mem
/-- It lies in blocks of cells. -/
def It.cl (x : It) : Prop := ∀ W, x.holds W → ∀ k, x.foot k → ∃ o : Obj, W.heap[k]? = some o ∧ o.isCells = true
theorem Cl.of {F : Nat → Prop} {w W : World} {it : List It} (h : M F w W it) (hc : ∀ x ∈ it, x.cl) : Cl it W := fun i x hi k hk => hc x (List.mem_of_getElem? hi) W (h.get i hi) k hk
theorem cl_blk (b : Nat) (cs : Array Value) (t : TypeId) (fr : Nat × Nat) : (blk b (.cells cs t fr)).cl := fun W h k hk => by
  have e : k = b := hk
  subst e
  exact ⟨_, h, rfl⟩
theorem cl_own {W : World} {e : TypeId} {s n : Nat} {v : Value} {xs : List Value} (h : W.ownsRow 0 e s v n xs) (k : Nat) (hk : v.ownBlock = some k) : ∃ o : Obj, W.heap[k]? = some o ∧ o.isCells = true := by
  obtain ⟨_, ⟨rfl, _⟩ | ⟨g, cap, cur, rfl, _, hg, _⟩⟩ := h
  · simp [Value.ownBlock] at hk
  · have e : g = k := Option.some.inj hk
    subst e
    exact ⟨_, hg, rfl⟩
theorem cl_ids (v : Value) (els : List (List UInt8)) : (ids v els).cl := fun W h k hk => cl_own (show Ids.Own W v els from h).own k hk
theorem cl_rows {α : Type} (T : TypeId) (n : Nat) (enc : α → List Value) (v : Value) (els : List α) : (rows T n enc v els).cl := fun W h k hk => cl_own (show St.Own T n enc W v els from h).own k hk
theorem M.dropN {F : Nat → Prop} {w0 w : World} {l : List It} (h : M F w0 w l) (n : Nat) : M F w0 w (l.drop n) := by
  have at_ : ∀ (i : Nat) (x : It), (l.drop n)[i]? = some x → l[n + i]? = some x := fun i x hi => by rwa [List.getElem?_drop] at hi
  exact ⟨fun i x hi => h.all _ x (at_ i x hi), fun i j x y hi hj hij => h.dis _ _ x y (at_ i x hi) (at_ j y hj) (by omega), fun i x hi => h.rng _ x (at_ i x hi), h.keep⟩
end Mem
namespace Mc
open Oct Ids
open Ms hiding M
open Mem (M It blk ids rows)
theorem own_idat {w : World} {a : Option Addr} {n c : Nat} {els : List (List UInt8)} (h : Ids.Own w (.slice a n c) els) : At w a n els := by
  obtain ⟨a', c', e, h1, _⟩ := h.at
  cases e
  exact h1
/-- A message with ids, in memory. -/
structure G where
  a : Option Addr
  n : Nat
  c : Nat
  u : List (List UInt8)
def encG (K : Int) (x : G) : List Value := [.int .i64 K, .slice x.a x.n x.c, .string ByteArray.empty]
theorem G_enc (K : Int) : St.Enc 3 (encG K) := by
  refine ⟨fun _ => rfl, fun x v hv => ?_⟩
  simp only [encG, List.mem_cons, List.not_mem_nil, or_false] at hv
  rcases hv with rfl | rfl | rfl <;> rfl
abbrev gz : Array Value := #[.int .i64 0, .slice none 0 0, .string ByteArray.empty]
theorem slG : SlT Try.prog 24 28 (.agg gz) 3 48 := SlT.mk' Try.underlying24 (by kernel_rfl) rfl (by omega)
def idG (x : G) : It := ids (.slice x.a x.n x.c) x.u
theorem idG_at {F : Nat → Prop} {w W : World} {l : List It} (h : M F w W l) {i : Nat} {x : G} (hi : l[i]? = some (idG x)) : At W x.a x.n x.u := own_idat (h.get i hi)
/-- The k-th piece. -/
def ck (l : List (List UInt8)) (k : Nat) : List (List UInt8) := (l.drop (16 * k)).take 16
def chunks (l : List (List UInt8)) : List (List (List UInt8)) := (List.range ((l.length + 15) / 16)).map (ck l)
def cutL (K : Int) (l : List (List UInt8)) : List (List (List UInt8)) := if knd K = 1 then chunks l else []
theorem ck_len (l : List (List UInt8)) (k : Nat) : (ck l k).length = min 16 (l.length - 16 * k) := by unfold ck; rw [List.length_take, List.length_drop]
theorem at_ck {w : World} {a : Option Addr} {n : Nat} {l : List (List UInt8)} (h : At w a n l) (k : Nat) : At w (adv a (16 * k)) (min 16 (n - 16 * k)) (ck l k) := by
  refine ⟨by rw [ck_len, h.len], fun x hx => h.size x (List.mem_of_mem_drop (List.mem_of_mem_take hx)), Nat.le_trans (Nat.min_le_left _ _) (by unfold maxLen; omega), ?_⟩
  by_cases e : n - 16 * k = 0
  · exact .inl (by rw [e]; rfl)
  · right
    rcases h.lay with e1 | ⟨b, off, rfl, hb, hr⟩
    · omega
    · refine ⟨b, off + 16 * k * 32, rfl, hb, fun i x hi => ?_⟩
      have hlt := (List.getElem?_eq_some_iff.1 hi).1
      rw [ck_len] at hlt
      unfold Mc.ck at hi
      rw [List.getElem?_take_of_lt (by omega), List.getElem?_drop] at hi
      have := hr _ x hi
      rwa [show off + (16 * k + i) * 32 = off + 16 * k * 32 + i * 32 by omega] at this
end Mc
end Go.Proofs.Ythllhjdaknmlbaa
