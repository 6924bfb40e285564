/-
  The calls of chapter 25, as they came in.
-/
import Derived.Test.YtgpimeobkacniaaSqX
import Derived.Test.YtgpimeobkacniaaGOp
set_option linter.unusedVariables false
set_option linter.unusedSimpArgs false
namespace Go.Proofs.Ytgpimeobkacniaa
open Go.RowKit
namespace Sq
open Oct Ids
open Go.ChangeShapes Go.WideShapes Go.ChangeAt
/-- A node, as it came in; a call. -/
abbrev NQ := List UInt8 × Int × List UInt8 × ByteArray × Unit
abbrev AQ := Int × NQ × Unit
def layN (x : NQ) : List Value := x.1.map bv ++ (.int .i64 x.2.1 :: (x.2.2.1.map bv ++ [.string x.2.2.2.1]))
def factN (x : NQ) : Prop := x.1.length = 32 ∧ x.2.2.1.length = 32 ∧ x.2.2.2.1.size ≤ maxLen
instance (x : NQ) : Decidable (factN x) := by unfold factN; infer_instance
def layQ (x : AQ) : List Value := .int .i64 x.1 :: layN x.2.1
theorem layN_len (x : NQ) (h : factN x) : (layN x).length = 66 := by
  unfold layN
  simp [h.1, h.2.1]
theorem layQ_len (x : AQ) (h : factN x.2.1) : (layQ x).length = 67 := by
  unfold layQ
  rw [List.length_cons, layN_len _ h]
theorem rdN : Opn.Rd Try.prog 37 66 layN (fun _ => factN) (fun x => x.2.2.2.1.size) := by
  have h := Opn.rd_struct (T := 37) Try.underlying37 (by kernel_rfl) (Opn.rdf_cons Opn.rd_id rfl (Opn.rdf_cons Opn.rd_i rfl (Opn.rdf_cons Opn.rd_id rfl (Opn.rdf_cons Opn.rd_s rfl Opn.rdf_nil))))
  refine ⟨h.size, fun W x hx => layN_len x hx, fun H enc W fuel cs y hy => ?_, fun W W' x hl hx => hx⟩
  obtain ⟨x, e, ⟨f0, f1, f2, f3, _⟩, b⟩ := h.op H enc W fuel cs y hy
  refine ⟨x, by rw [e]; simp [layN], ⟨f0, f2, f3⟩, ?_⟩
  have b' : (32 + (1 + (32 + ((x.2.2.2.1.size + 1) + 0)))) + 1 ≤ Rows.uptoBulk y.1 := b
  omega
theorem rdQ : Opn.Rd Try.prog 39 67 layQ (fun _ x => factN x.2.1) (fun x => x.2.1.2.2.2.1.size) := by
  have h := Opn.rd_struct (T := 39) Try.underlying39 (by kernel_rfl) (Opn.rdf_cons Opn.rd_i rfl (Opn.rdf_cons rdN rfl Opn.rdf_nil))
  refine ⟨h.size, fun W x hx => layQ_len x hx, fun H enc W fuel cs y hy => ?_, fun W W' x hl hx => hx⟩
  obtain ⟨x, e, ⟨f0, f1, _⟩, b⟩ := h.op H enc W fuel cs y hy
  refine ⟨x, by rw [e]; simp [layQ], f1, ?_⟩
  have b' : (1 + (x.2.1.2.2.2.1.size + 0)) + 1 ≤ Rows.uptoBulk y.1 := b
  omega
theorem rdQl : Opn.Rd Try.prog 22 1 (fun x : Opn.Sl AQ => [x.val]) (Opn.SlAt 67 layQ (fun _ x => factN x.2.1)) (fun x => (x.els.map fun x => x.2.1.2.2.2.1.size).sum + 1) :=
  Opn.rd_slice Try.underlying22 (by kernel_rfl) (by omega) rdQ
abbrev qz : Array Value := (Value.int .i64 0 :: ((List.replicate 32 (0 : UInt8)).map bv ++ (Value.int .i64 0 :: ((List.replicate 32 (0 : UInt8)).map bv ++ [Value.string ByteArray.empty])))).toArray
theorem tyQ : St.Ty 39 67 qz := ⟨⟨_, Try.underlying39, rfl⟩, by kernel_rfl, by kernel_rfl⟩
/-- A call, as a record. -/
structure Ak where
  k : Int
  d : Dn
def qe (x : Ak) : List Value := .int .i64 x.k :: de x.d
theorem qe_len (x : Ak) : (qe x).length = 67 := by unfold qe; rw [List.length_cons, de_len]
theorem encQ : St.Enc 67 qe := by
  refine ⟨qe_len, fun x v hv => ?_⟩
  unfold qe at hv
  rcases List.mem_cons.1 hv with rfl | hv
  · rfl
  · exact encD.one x.d v hv
theorem layQ_qe (x : AQ) (h : factN x.2.1) : layQ x = qe ⟨x.1, ⟨x.2.1.1, h.1, ⟨x.2.1.2.1, x.2.1.2.2.1, h.2.1, x.2.1.2.2.2.1⟩⟩⟩ := rfl
def qk (x : AQ) : Ak := if h : factN x.2.1 then ⟨x.1, ⟨x.2.1.1, h.1, ⟨x.2.1.2.1, x.2.1.2.2.1, h.2.1, x.2.1.2.2.2.1⟩⟩⟩ else ⟨0, ⟨Zi, rfl, ⟨0, Zi, rfl, ByteArray.empty⟩⟩⟩
/-- A row of calls. -/
theorem aks_of {w : World} {s : Opn.Sl AQ} (h : Opn.SlAt 67 layQ (fun _ x => factN x.2.1) w s) : St.At 67 qe w s.a s.len (s.els.map qk) ∧ (∀ x ∈ s.els.map qk, x.d.x.v.size ≤ maxLen) ∧ s.len ≤ s.cap ∧ s.cap ≤ maxLen := by
  obtain ⟨hln, hlc, hcm, hlay⟩ := h
  by_cases h0 : s.els = []
  · exact ⟨⟨by rw [List.length_map]; exact hln, Nat.le_trans hlc hcm, .inl (by rw [← hln, h0]; rfl)⟩, fun x hx => (by rw [h0] at hx; cases hx), hlc, hcm⟩
  have hf : ∀ x ∈ s.els, factN x.2.1 := fun x hx => by
    rcases hlay with e | ⟨b, off, e, hb, hr⟩
    · exact absurd (List.eq_nil_of_length_eq_zero (by omega)) h0
    · obtain ⟨i, hi⟩ := List.getElem?_of_mem hx
      exact (hr i x hi).2
  refine ⟨⟨by rw [List.length_map]; exact hln, Nat.le_trans hlc hcm, ?_⟩, fun x hx => ?_, hlc, hcm⟩
  · refine hlay.imp id fun ⟨b, off, e, hb, hr⟩ => ⟨b, off, e, hb, fun i x hi => ?_⟩
    rw [List.getElem?_map] at hi
    cases hy : s.els[i]? with
    | none => rw [hy] at hi; cases hi
    | some y =>
      rw [hy] at hi
      have hfy := hf y (List.mem_of_getElem? hy)
      have e2 : qk y = x := Option.some.inj hi
      subst e2
      unfold qk
      rw [dif_pos hfy, ← layQ_qe y hfy]
      exact (hr i y hy).1
  · obtain ⟨y, hy, rfl⟩ := List.mem_map.1 hx
    unfold qk
    rw [dif_pos (hf y hy)]
    exact (hf y hy).2.2
end Sq
end Go.Proofs.Ytgpimeobkacniaa
