/-
  seq.Seq in memory; New, none, Len.
-/
import Derived.Test.YtgllkfolckbdhaaGMm
import Derived.Test.YtgllkfolckbdhaaMpK
import Derived.Test.YtgllkfolckbdhaaRows4
import Derived.Laws.Cover3
import Derived.Carry
set_option linter.unusedVariables false
set_option linter.unusedSimpArgs false
namespace Go.Proofs.Ytgllkfolckbdhaa
open Go.RowKit
namespace Mp
section
variable {P : Program} {ops : Array Oper} {rest : List Oper} {o : Oper} {a : Act} {w : World} {Q : Exit → Act → World → Prop}
/-- 'map[K]E{}'. -/
theorem wl_make (hgd : o.guard = none) {T : TypeId} (ho : o.op = .makeMap T none) {b : Nat} (hb : w.heap.size = b)
    (hh : wpList P ops Q rest (a.put o.dst (.map (some b))) (w.alloc (.map #[] 0))) : wpList P ops Q (o :: rest) a w :=
  wpList_plain hgd fun K' hK' => by
    subst hb
    unfold Oper.wp
    simp [execOp, ho, run_makeMap]
    exact hK' _ _ hh
end
end Mp
namespace Sq
open Oct Ids Mp
open Mem (M It blk ids rows)
section
/-- Some things held as one. -/
theorem pack {F : Nat → Prop} {w0 w : World} {l s : List It} (h : M F w0 w (l ++ s)) (z : It) (hz : z.holds w) (hf : ∀ k, z.foot k → ∃ (i : Nat) (y : It), s[i]? = some y ∧ y.foot k) : M F w0 w (l ++ [z]) := by
  have at_ : ∀ (i : Nat) (u : It), (l ++ [z])[i]? = some u → ((l ++ s)[i]? = some u ∧ i < l.length) ∨ (u = z ∧ i = l.length) := by
    intro i u hi
    rcases Nat.lt_or_ge i l.length with hlt | hge
    · rw [List.getElem?_append_left hlt] at hi
      exact .inl ⟨by rw [List.getElem?_append_left hlt]; exact hi, hlt⟩
    · rw [List.getElem?_append_right hge] at hi
      have h0 := (List.getElem?_eq_some_iff.1 hi).1
      simp at h0
      have h1 : i = l.length := by omega
      subst h1
      simp at hi
      exact .inr ⟨hi.symm, rfl⟩
  have fr : ∀ k, z.foot k → ∃ (i : Nat) (y : It), (l ++ s)[i]? = some y ∧ l.length ≤ i ∧ y.foot k := fun k hk => by
    obtain ⟨i, y, h1, h2⟩ := hf k hk
    exact ⟨l.length + i, y, by rw [List.getElem?_append_right (Nat.le_add_right _ _), Nat.add_sub_cancel_left]; exact h1, Nat.le_add_right _ _, h2⟩
  refine ⟨fun i u hi => ?_, fun i j u v hi hj hij k hu hv => ?_, fun i u hi k hk => ?_, h.keep⟩
  · rcases at_ i u hi with ⟨h1, _⟩ | ⟨rfl, _⟩
    · exact h.all i u h1
    · exact hz
  · rcases at_ i u hi with ⟨h1, e1⟩ | ⟨rfl, e1⟩ <;> rcases at_ j v hj with ⟨h2, e2⟩ | ⟨rfl, e2⟩
    · exact h.dis i j u v h1 h2 hij k hu hv
    · obtain ⟨q, y, g1, g2, g3⟩ := fr k hv
      exact h.dis i q u y h1 g1 (by omega) k hu g3
    · obtain ⟨q, y, g1, g2, g3⟩ := fr k hu
      exact h.dis j q v y h2 g1 (by omega) k hv g3
    · omega
  · rcases at_ i u hi with ⟨h1, _⟩ | ⟨rfl, _⟩
    · exact h.rng i u h1 k hk
    · obtain ⟨q, y, g1, g2, g3⟩ := fr k hk
      exact h.rng q y g1 k g3
theorem M_drop {F : Nat → Prop} {w0 w : World} {l : List It} (h : M F w0 w l) (n : Nat) : M F w0 w (l.drop n) := by
  have at_ : ∀ (i : Nat) (x : It), (l.drop n)[i]? = some x → l[n + i]? = some x := by
    intro i x hi
    rwa [List.getElem?_drop] at hi
  exact ⟨fun i x hi => h.all _ x (at_ i x hi), fun i j x y hi hj hij => h.dis _ _ x y (at_ i x hi) (at_ j y hj) (by omega), fun i x hi => h.rng _ x (at_ i x hi), h.keep⟩
end
/-- A node. -/
structure Nd where
  h : Int
  r : List UInt8
  hr : r.length = 32
  v : ByteArray
def ne (x : Nd) : List Value := .int .i64 x.h :: (x.r.map bv ++ [.string x.v])
theorem ne_len (x : Nd) : (ne x).length = 34 := by unfold ne; simp [x.hr]
theorem encN : St.Enc 34 ne := by
  refine ⟨ne_len, fun x u hu => ?_⟩
  unfold ne at hu
  simp only [List.mem_append, List.mem_cons, List.mem_map, List.not_mem_nil, or_false] at hu
  rcases hu with rfl | ⟨y, _, rfl⟩ | rfl <;> rfl
abbrev nz : Array Value := (Value.int .i64 0 :: ((List.replicate 32 (0 : UInt8)).map bv ++ [Value.string ByteArray.empty])).toArray
abbrev okI : List UInt8 → Prop := fun k => k.length = 32
abbrev Nds := List (List UInt8 × Nd)
abbrev Bhs := List (List UInt8 × (Value × List (List UInt8)))
def dN (N : Nds) : List (List UInt8 × Value) := N.map fun p => (p.1, .agg (ne p.2).toArray)
def dB (B : Bhs) : List (List UInt8 × Value) := B.map fun p => (p.1, p.2.1)
def dG (G : List (List UInt8)) : List (List UInt8 × Value) := G.map fun p => (p, .bool true)
/-- A row of ids that is never written again. -/
def RowIs (w : World) (v : Value) (l : List (List UInt8)) : Prop := (v = .slice none 0 0 ∧ l = []) ∨ ∃ g c, v = .slice (some ⟨g, 0, none⟩) l.length c ∧ At w (some ⟨g, 0, none⟩) l.length l ∧ l.length ≤ c ∧ c ≤ maxLen
theorem RowIs.of {w : World} {v : Value} {l : List (List UInt8)} (h : Ids.Own w v l) : RowIs w v l := by
  obtain ⟨a, c, e, hat, _⟩ := h.at
  obtain ⟨hl, h1 | ⟨g, cap, cur, rfl, _, hg, hn, hc, hsz, htk⟩⟩ := h.own
  · obtain ⟨rfl, h0⟩ := h1
    exact .inl ⟨rfl, List.eq_nil_of_length_eq_zero (by simpa using h0)⟩
  · cases e
    exact .inr ⟨g, _, rfl, hat, hn, hc⟩
theorem RowIs.keep {w w' : World} {v : Value} {l : List (List UInt8)} (h : RowIs w v l) {S : Nat → Prop} (k : Keep S w w') (n : ∀ k, v.ownBlock = some k → ¬ S k) : RowIs w' v l := by
  rcases h with h | ⟨g, c, e, hat, hc⟩
  · exact .inl h
  · exact .inr ⟨g, c, e, hat.keep k (fun b off e2 => n b (by rw [e]; cases e2; rfl)), hc⟩
def beh (B : Bhs) : It := ⟨fun k => ∃ p ∈ B, p.2.1.ownBlock = some k, fun w => ∀ p ∈ B, RowIs w p.2.1 p.2.2, fun w w' S h k n p hp => (h p hp).keep k (fun j hj => n j ⟨p, hp, hj⟩)⟩
def foot (b bn bb bg : Nat) (B : Bhs) (k : Nat) : Prop := (k = b ∨ k = bn ∨ k = bb ∨ k = bg) ∨ ∃ p ∈ B, p.2.1.ownBlock = some k
theorem map_nil {T K E : TypeId} (hT : Try.prog.underlying T = some (.map K E)) (m : Option Nat) (w : World) : Sem.run Try.prog (binOp .eql T (.map m) (.map none)) w = .ok (.bool m.isNone) w := by
  have h := run_equal_map_nil (P := Try.prog) w T K E m hT
  have e : binOp .eql T (.map m) (.map none) = (do pure (.bool (← Op.equal T (.map m) (.map none)))) := rfl
  rw [e, Sem.run_bind, h]
  rfl
/-- One that nobody made. -/
def Zp (w : World) (p : Value) : Prop := p = .pointer none ∨ ∃ b, p = .pointer (some ⟨b, 0, none⟩) ∧ w.cell? ⟨b, 0, none⟩ = some (.map none)
end Sq
end Go.Proofs.Ytgllkfolckbdhaa
