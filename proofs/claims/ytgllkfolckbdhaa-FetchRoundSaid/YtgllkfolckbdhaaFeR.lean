/-
  fetch: the calls as they came in.
-/
import Derived.Test.YtgllkfolckbdhaaFeG
import Derived.Test.YtgllkfolckbdhaaOpnU
set_option linter.unusedVariables false
set_option linter.unusedSimpArgs false
namespace Go.Proofs.Ytgllkfolckbdhaa
open Go.RowKit
namespace Fe
open Oct Ids Mp
open Mem (M It blk ids rows)
open Go.ChangeShapes Go.WideShapes Go.ChangeAt
abbrev AQ := Int × Opn.Sl (List UInt8) × List UInt8 × Int × Int × Unit
def layQ (x : AQ) : List Value := [.int .i64 x.1, x.2.1.val] ++ (x.2.2.1.map bv ++ [.int .i64 x.2.2.2.1, .int .i64 x.2.2.2.2.1])
def factQ (W : World) (x : AQ) : Prop := x.2.2.1.length = 32 ∧ I64 x.2.2.2.2.1 ∧ At W x.2.1.a x.2.1.len x.2.1.els
theorem layQ_len (x : AQ) (h : x.2.2.1.length = 32) : (layQ x).length = 36 := by
  unfold layQ
  simp [h]
theorem wf_i64 {x : Int} (h : (Lit.int .i64 x).wf = true) : I64 x := by
  simp [Lit.wf, IntKind.min, IntKind.max, IntKind.signed, IntKind.bits] at h
  exact ⟨by omega, by omega⟩
theorem rdQ : Opn.Rd Try.prog 34 36 layQ factQ (fun _ => 0) := by
  have h := Opn.rd_struct (T := 34) Try.underlying34 (by kernel_rfl) (Opn.rdf_cons Opn.rd_i rfl (Opn.rdf_cons Opn.rd_idl rfl (Opn.rdf_cons Opn.rd_id rfl (Opn.rdf_cons Opn.rd_i rfl (Opn.rdf_cons Opn.rd_i rfl Opn.rdf_nil)))))
  refine ⟨h.size, fun W x hx => layQ_len x hx.1, fun H enc W fuel cs y hy => ?_, fun W W' x hl hx => ?_⟩
  · obtain ⟨x, e, ⟨f0, f1, f2, f3, f4, _⟩, b⟩ := h.op H enc W fuel cs y hy
    exact ⟨x, by rw [e]; simp [layQ], ⟨f2, wf_i64 f4, Opn.at_of f1⟩, Nat.zero_le _⟩
  · exact ⟨hx.1, hx.2.1, Opn.at_leaves hx.2.2 (fun b o hb => hl b o hb) (fun b i cs hc => hl.range hc)⟩
theorem rdQl : Opn.Rd Try.prog 22 1 (fun x : Opn.Sl AQ => [x.val]) (Opn.SlAt 36 layQ factQ) (fun x => (x.els.map fun _ => 0).sum + 1) :=
  Opn.rd_slice Try.underlying22 (by kernel_rfl) (by omega) rdQ
abbrev qz : Array Value := ([Value.int .i64 0, .slice none 0 0] ++ ((List.replicate 32 (0 : UInt8)).map bv ++ [Value.int .i64 0, Value.int .i64 0])).toArray
theorem tyQ : St.Ty 34 36 qz := ⟨⟨_, Try.underlying34, rfl⟩, by kernel_rfl, by kernel_rfl⟩
/-- A call, as a record. -/
structure Ac where
  K : Int
  ia : Option Addr
  iN : Nat
  ic : Nat
  il : List Wd
  u : Wd
  hu : u.length = 32
  f : Int
  now : Int
def ae (a : Ac) : List Value := [.int .i64 a.K, .slice a.ia a.iN a.ic] ++ (a.u.map bv ++ [.int .i64 a.f, .int .i64 a.now])
theorem ae_len (a : Ac) : (ae a).length = 36 := by unfold ae; simp [a.hu]
theorem encA : St.Enc 36 ae := by
  refine ⟨ae_len, fun x v hv => ?_⟩
  unfold ae at hv
  simp only [List.mem_append, List.mem_cons, List.mem_map, List.not_mem_nil, or_false] at hv
  rcases hv with (rfl | rfl) | (⟨y, _, rfl⟩ | rfl | rfl) <;> rfl
/-- What is known of a call. -/
def AcAt (w : World) (a : Ac) : Prop := At w a.ia a.iN a.il ∧ I64 a.now
theorem AcAt.calm {w w' : World} {a : Ac} (h : AcAt w a) (k : Keep (fun _ => False) w w') : AcAt w' a := ⟨h.1.calm k, h.2⟩
def qk (x : AQ) : Ac := if h : x.2.2.1.length = 32 then ⟨x.1, x.2.1.a, x.2.1.len, x.2.1.cap, x.2.1.els, x.2.2.1, h, x.2.2.2.1, x.2.2.2.2.1⟩ else ⟨0, none, 0, 0, [], List.replicate 32 0, rfl, 0, 0⟩
/-- A row of calls. -/
theorem acs_of {w : World} {s : Opn.Sl AQ} (h : Opn.SlAt 36 layQ factQ w s) : St.At 36 ae w s.a s.len (s.els.map qk) ∧ (∀ x ∈ s.els.map qk, AcAt w x) ∧ s.len ≤ s.cap ∧ s.cap ≤ maxLen := by
  obtain ⟨hln, hlc, hcm, hlay⟩ := h
  by_cases h0 : s.els = []
  · exact ⟨⟨by rw [List.length_map]; exact hln, Nat.le_trans hlc hcm, .inl (by rw [← hln, h0]; rfl)⟩, fun x hx => (by rw [h0] at hx; cases hx), hlc, hcm⟩
  have hf : ∀ x ∈ s.els, factQ w x := fun x hx => by
    rcases hlay with e | ⟨b, off, e, hb, hr⟩
    · exact absurd (List.eq_nil_of_length_eq_zero (by omega)) h0
    · obtain ⟨i, hi⟩ := List.getElem?_of_mem hx
      exact (hr i x hi).2
  refine ⟨⟨by rw [List.length_map]; exact hln, Nat.le_trans hlc hcm, ?_⟩, fun x hx => ?_, hlc, hcm⟩
  · refine hlay.imp id fun ⟨b, off, e, hb, hr⟩ => ⟨b, off, e, hb, fun i x hi => ?_⟩
    rw [List.getElem?_map] at hi
    cases hy : s.els[i]? with
    | none => rw [hy] at hi; cases hi
    | some y =>
      rw [hy] at hi
      have hfy := hf y (List.mem_of_getElem? hy)
      have e2 : qk y = x := Option.some.inj hi
      subst e2
      have h3 := (hr i y hy).1
      unfold layQ Opn.Sl.val at h3
      unfold qk
      rw [dif_pos hfy.1]
      exact h3
  · obtain ⟨y, hy, rfl⟩ := List.mem_map.1 hx
    unfold qk
    rw [dif_pos (hf y hy).1]
    exact ⟨(hf y hy).2.2, (hf y hy).2.1⟩
section
variable {w : World} {b o : Nat} {x : Ac}
theorem ae_K : (ae x)[0]? = some (.int .i64 x.K) := rfl
theorem ae_I : (ae x)[1]? = some (.slice x.ia x.iN x.ic) := rfl
theorem ae_hi (j : Nat) : (ae x)[34 + j]? = [Value.int .i64 x.f, .int .i64 x.now][j]? := by
  unfold ae
  rw [List.getElem?_append_right (by simp; omega), List.getElem?_append_right (by simp [x.hu]; omega)]
  simp only [List.length_cons, List.length_nil, List.length_map, x.hu]
  congr 1
  omega
theorem ae_f : (ae x)[34]? = some (.int .i64 x.f) := ae_hi 0
theorem ae_n : (ae x)[35]? = some (.int .i64 x.now) := ae_hi 1
theorem rng_q {v : Value} {j : Nat} (h : w.rangeAt b o (ae x)) (e : (ae x)[j]? = some v) : w.cell? ⟨b, o + j, none⟩ = some v := h j v e
theorem rng_qu (h : w.rangeAt b o (ae x)) : w.rangeAt b (o + 2) (x.u.map bv) := fun j v hj => by
  have := h (2 + j) v (by
    unfold ae
    rw [List.getElem?_append_right (by simp), List.getElem?_append_left (by simp; have := (List.getElem?_eq_some_iff.1 hj).1; rw [List.length_map] at this; omega)]
    simpa using hj)
  rwa [show o + (2 + j) = o + 2 + j by omega] at this
end
end Fe
end Go.Proofs.Ytgllkfolckbdhaa
