/-
  seq.hang.
-/
import Derived.Test.YtgpimeobkacniaaGreatSq3
import Derived.Test.YtgpimeobkacniaaGreatSqL
set_option linter.unusedVariables false
set_option linter.unusedSimpArgs false
namespace Go.Proofs.YtgpimeobkacniaaGreat
open Go.RowKit
namespace Sq
open Oct Ids Mp
open Mem (M It blk ids rows)
def fN (x : Nd) : Value := .agg (ne x).toArray
def fB (p : Value × List (List UInt8)) : Value := p.1
def rowB (B : Bhs) (r : List UInt8) : Value × List (List UInt8) := (fget B r).getD (.slice none 0 0, [])
def hN (N : Nds) (y : List UInt8) : Int := ((fget N y).map (·.h)).getD 0
def aheadOf (N : Nds) (h : Int) (u : List UInt8) (y : List UInt8) : Bool := ah h u (hN N y) y
def cutN (N : Nds) (h : Int) (u : List UInt8) (l : List (List UInt8)) : Nat := (l.takeWhile (aheadOf N h u)).length
def insN (N : Nds) (h : Int) (u : List UInt8) (l : List (List UInt8)) : List (List UInt8) := l.take (cutN N h u l) ++ [u] ++ l.drop (cutN N h u l)
theorem cut_at {p : List UInt8 → Bool} : ∀ {l : List (List UInt8)} {k : Nat}, k ≤ l.length → (∀ j y, j < k → l[j]? = some y → p y = true) → (∀ y, l[k]? = some y → p y = false) → (l.takeWhile p).length = k
  | [], k, hk, _, _ => by simp at hk; simp [hk]
  | a :: l, 0, _, _, h2 => by
    have := h2 a rfl
    simp [this]
  | a :: l, k + 1, hk, h1, h2 => by
    have ha := h1 0 a (by omega) rfl
    rw [List.takeWhile_cons, if_pos ha, List.length_cons]
    refine congrArg (· + 1) (cut_at (by simpa using hk) (fun j y hj hy => h1 (j + 1) y (by omega) hy) (fun y hy => h2 y hy))
theorem ne_rng {w : World} {b : Nat} {x : Nd} {t : TypeId} {fr : Nat × Nat} (h : w.heap[b]? = some (.cells (ne x).toArray t fr)) : w.rangeAt b 1 (x.r.map bv) := fun j v hj => by
  rw [cell_of h, List.getElem?_toArray, ← List.getElem?_drop, ne_ref, List.getElem?_append_left (List.getElem?_eq_some_iff.1 hj).1]
  exact hj
theorem mem_fput {α β : Type} [DecidableEq α] {L : List (α × β)} {k : α} {v : β} {p : α × β} (h : p ∈ fput L k v) : p = (k, v) ∨ p ∈ L := by
  unfold fput at h
  split at h
  · obtain ⟨q, hq, e⟩ := List.mem_map.1 h
    split at e
    · exact .inl e.symm
    · exact .inr (e ▸ hq)
  · rcases List.mem_append.1 h with h | h
    · exact .inr h
    · exact .inl (List.mem_singleton.1 h)
theorem row_is {w : World} {B : Bhs} (h : (beh B).holds w) (r : List UInt8) : RowIs w (rowB B r).1 (rowB B r).2 := by
  unfold rowB
  cases he : fget B r with
  | none => exact .inl ⟨rfl, rfl⟩
  | some p => exact h (r, p) (fget_mem he)
theorem zero_of {T : TypeId} {z : Value} {n : Nat} (h : (Tryz.prog.info? T).map (fun i => (i.zero, i.size)) = some (some z, n)) (w : World) : (zeroValue T).run Tryz.prog w = .ok z w := by
  cases hi : Tryz.prog.info? T with
  | none => rw [hi] at h; cases h
  | some i =>
    rw [hi] at h
    simp only [Option.map_some, Option.some.injEq, Prod.mk.injEq] at h
    simp [zeroValue, typeInfo, hi, h.1]
theorem zeroR (w : World) : (zeroValue 41).run Tryz.prog w = .ok (.slice none 0 0) w := zero_of (n := 1) (by kernel_rfl) w
theorem look_row (B : Bhs) (r : List UInt8) : (get (dB B) r).getD (.slice none 0 0) = (rowB B r).1 := by
  rw [show dB B = enc2 fB B from rfl, get_enc2]
  unfold rowB
  cases fget B r with
  | none => rfl
  | some p => rfl
/-- The cells of a node that is looked up. -/
def lookN (N : Nds) (y : List UInt8) : List Value := ((fget N y).map ne).getD nz.toList
theorem look_nd (N : Nds) (y : List UInt8) : (get (dN N) y).getD (.agg nz) = .agg (lookN N y).toArray := by
  rw [show dN N = enc2 fN N from rfl, get_enc2]
  unfold lookN
  cases fget N y with
  | none => simp
  | some p => rfl
theorem lookN_h (N : Nds) (y : List UInt8) : (lookN N y).toArray[0]? = some (.int .i64 (hN N y)) := by
  unfold lookN hN
  cases fget N y with
  | none => rfl
  | some p => rfl
theorem lookN_len (N : Nds) (y : List UInt8) : (lookN N y).length = 34 := by
  unfold lookN
  cases fget N y with
  | none => rfl
  | some p => exact ne_len p
theorem ex_field {P : Program} {o : Oper} {a : Act} {T : TypeId} {X : Operand} {i : Nat} {cs : Array Value} {v : Value} (ho : o.op = .field T X i) (hx : a.eval X = .agg cs) (hr : ∀ w, (Instr.field T (.agg cs) i).run P w = .ok v w) : ∀ w, (execOp a.eval o).run P w = .ok (.value v) w := fun w => by
  unfold execOp
  simp only [ho, hx, Sem.run_bind, hr, Result.andThen_ok, Sem.run_pure]
theorem icut {w : World} {a : Option Addr} {n : Nat} {els : List (List UInt8)} (h : At w a n els) (j : Nat) (hj : j ≤ n) : At w a j (els.take j) := by
  refine ⟨by rw [List.length_take, h.len]; omega, fun x hx => h.size x (List.mem_of_mem_take hx), Nat.le_trans hj h.most, ?_⟩
  rcases h.lay with e | ⟨b, off, ha, hb, hr⟩
  · exact .inl (by omega)
  · refine .inr ⟨b, off, ha, hb, fun i x hi => hr i x ?_⟩
    rw [List.getElem?_take] at hi
    split at hi
    · exact hi
    · cases hi
theorem itail {w : World} {g off n : Nat} {els : List (List UInt8)} (h : At w (some ⟨g, off, none⟩) n els) (j : Nat) (hj : j ≤ n) : At w (some ⟨g, off + j * 32, none⟩) (n - j) (els.drop j) := by
  refine ⟨by rw [List.length_drop, h.len], fun x hx => h.size x (List.mem_of_mem_drop hx), Nat.le_trans (Nat.sub_le _ _) h.most, ?_⟩
  rcases h.lay with e | ⟨b, off', ha, hb, hr⟩
  · exact .inl (by omega)
  · cases ha
    refine .inr ⟨_, _, rfl, hb, fun i x hi => ?_⟩
    rw [List.getElem?_drop] at hi
    have := hr (j + i) x hi
    rwa [show off + j * 32 + i * 32 = off + (j + i) * 32 by rw [Nat.add_mul]; omega]
theorem iempty {w : World} {a : Option Addr} : At w a 0 [] := ⟨rfl, (fun x hx => by cases hx), Nat.zero_le _, .inl rfl⟩
theorem iat1 {w : World} {b : Nat} {u : List UInt8} {t : TypeId} {fr : Nat × Nat} (h : w.heap[b]? = some (.cells (u.map bv).toArray t fr)) (hu : u.length = 32) : At w (some ⟨b, 0, none⟩) 1 [u] := by
  refine ⟨rfl, fun x hx => by rw [List.mem_singleton.1 hx]; exact hu, by unfold maxLen; omega, .inr ⟨b, 0, rfl, lt_of_block h, fun i x hi => ?_⟩⟩
  have hi0 : i = 0 := by have := (List.getElem?_eq_some_iff.1 hi).1; simp at this; omega
  subst hi0
  cases hi
  intro j v hj
  simp only [Nat.zero_mul, Nat.zero_add]
  rw [cell_of h, List.getElem?_toArray]
  exact hj
theorem beh_put {F : Nat → Prop} {w0 w w1 : World} {it : List It} (h : M F w0 w it) (i : Nat) {B : Bhs} (hi : it[i]? = some (beh B)) (r : List UInt8) {v : Value} {l : List (List UInt8)} (n : Ids.New w w1 v l) : M F w0 w1 (it.set i (beh (fput B r (v, l)))) :=
  h.upd i hi (S := fun _ => False) n.2.1 (fun _ h => h.elim) (y := beh (fput B r (v, l))) (fun p hp => by
    rcases mem_fput hp with rfl | hp
    · exact RowIs.of n.1
    · exact ((show ∀ p ∈ B, RowIs w p.2.1 p.2.2 from h.get i hi) p hp).keep n.2.1 (fun _ _ h => h)) (fun k ⟨p, hp, e⟩ => by
    rcases mem_fput hp with rfl | hp
    · exact .inr ⟨n.2.2 k e, n.1.lt e⟩
    · exact .inl ⟨p, hp, e⟩)
theorem put_B {w : World} {b : Nat} {B : Bhs} (h : (mp okI idv b (dB B)).holds w) (r : List UInt8) (v : Value) (l : List (List UInt8)) : put (dB B) r v = dB (fput B r (v, l)) :=
  put_enc2 fB B (by have := (show Is okI idv w b (dB B) from h).nd; rwa [show dB B = enc2 fB B from rfl, keys_enc2] at this) r (v, l)
theorem put_N {w : World} {b : Nat} {N : Nds} (h : (mp okI idv b (dN N)).holds w) (u : List UInt8) (x : Nd) : put (dN N) u (fN x) = dN (fput N u x) :=
  put_enc2 fN N (by have := (show Is okI idv w b (dN N) from h).nd; rwa [show dN N = enc2 fN N from rfl, keys_enc2] at this) u x
end Sq
end Go.Proofs.YtgpimeobkacniaaGreat
