/-
  A header that came in; what a function holds of two of them.
-/
import Derived.Test.YthllhjdaknmlbaaDoorGHc
import Derived.Test.YthllhjdaknmlbaaDoorGHb
import Derived.Test.YthllhjdaknmlbaaDoorHd9
import Derived.Test.YthllhjdaknmlbaaDoorOpnU
set_option linter.unusedVariables false
set_option linter.unusedSimpArgs false
namespace Go.Proofs.YthllhjdaknmlbaaDoor
open Go.RowKit
namespace Hd
open Oct Ids Gn
open Mem (M blk ids)
open Go.ChangeShapes Go.WideShapes Go.ChangeAt

/-- A header that came in. -/
abbrev HH := Opn.Sl (List UInt8) × Int × ByteArray × Int × Int × Int × List UInt8 × Unit
def layH (x : HH) : List Value := hd (.slice x.1.a x.1.len x.1.cap) x.2.1 x.2.2.1 x.2.2.2.1 x.2.2.2.2.1 x.2.2.2.2.2.1 x.2.2.2.2.2.2.1
def wfi (x : Int) : Prop := (Lit.int .i64 x).wf = true
def factH (W : World) (x : HH) : Prop := x.2.2.2.2.2.2.1.length = 32 ∧ At W x.1.a x.1.len x.1.els ∧ x.2.2.1.size ≤ maxLen ∧ wfi x.2.1 ∧ wfi x.2.2.2.1 ∧ wfi x.2.2.2.2.1 ∧ wfi x.2.2.2.2.2.1
theorem rdH : Opn.Rd Tryd.prog 26 38 layH factH (fun x => x.2.2.1.size) := by
  have h := Opn.rd_struct (T := 26) Tryd.underlying26 (by kernel_rfl) (Opn.rdf_cons Opn.rd_idl rfl (Opn.rdf_cons Opn.rd_i rfl (Opn.rdf_cons Opn.rd_s rfl (Opn.rdf_cons Opn.rd_i rfl (Opn.rdf_cons Opn.rd_i rfl (Opn.rdf_cons Opn.rd_i rfl (Opn.rdf_cons Opn.rd_id rfl Opn.rdf_nil)))))))
  refine ⟨h.size, fun W x hx => hd_len _ _ _ _ _ _ _ hx.1, fun H enc W fuel cs y hy => ?_, fun W W' x hl hx => ?_⟩
  · obtain ⟨x, e, ⟨f0, f1, f2, f3, f4, f5, f6, _⟩, b⟩ := h.op H enc W fuel cs y hy
    refine ⟨x, by rw [e]; simp [layH, hd, Opn.Sl.val], ⟨f6, Opn.at_of f0, f2, f1, f3, f4, f5⟩, ?_⟩
    have b' : (x.1.els.map fun _ => 32).sum + 1 + (1 + (x.2.2.1.size + 1 + (1 + (1 + (1 + (32 + 0)))))) + 1 ≤ Rows.uptoBulk y.1 := b
    omega
  · exact ⟨hx.1, Opn.at_leaves hx.2.1 (fun b o hb => hl b o hb) (fun b i cs hc => hl.range hc), hx.2.2⟩
theorem smh_self (l : List (List UInt8)) (G : Int) (T : ByteArray) (A Q Z : Int) (m : List UInt8) : smh l G T A Q Z m l G T A Q Z m = true := by simp [smh]
/-- Two headers, in memory. -/
structure TS (w wr : World) (b b2 : Nat) (G G2 : Int) (T T2 : ByteArray) (A B2 Q Q2 Z Z2 : Int) (m m2 : List UInt8) (a a2 : Option Addr) (n c n2 c2 : Nat) (l l2 : List (List UInt8)) : Prop where
  o1 : HAt wr b (.slice a n c) G T A Q Z m
  o2 : HAt wr b2 (.slice a2 n2 c2) G2 T2 B2 Q2 Z2 m2
  a1 : At wr a n l
  a2 : At wr a2 n2 l2
  tab : Sha.TabF wr ∧ Sha.TabK wr
  keep : Keep (fun _ => False) w wr
section
variable {w wr : World} {b b2 : Nat} {G G2 : Int} {T T2 : ByteArray} {A B2 Q Q2 Z Z2 : Int} {m m2 : List UInt8} {a a2 : Option Addr} {n c n2 c2 : Nat} {l l2 : List (List UInt8)}
theorem TS.calm (h : TS w wr b b2 G G2 T T2 A B2 Q Q2 Z Z2 m m2 a a2 n c n2 c2 l l2) {w' : World} (k : Keep (fun _ => False) wr w') : TS w w' b b2 G G2 T T2 A B2 Q Q2 Z Z2 m m2 a a2 n c n2 c2 l l2 :=
  ⟨h.o1.calm k, h.o2.calm k, h.a1.calm k, h.a2.calm k, ⟨h.tab.1.keep k (fun h => h), h.tab.2.keep k (fun h => h)⟩, h.keep.trans k⟩
theorem TS.start (hm : m.length = 32) (hm2 : m2.length = 32) (h1 : At w a n l) (h2 : At w a2 n2 l2) (hT : Sha.TabF w ∧ Sha.TabK w) : TS w ((w.alloc (.cells (hd (.slice a n c) G T A Q Z m).toArray 26)).alloc (.cells (hd (.slice a2 n2 c2) G2 T2 B2 Q2 Z2 m2).toArray 26)) w.heap.size (w.heap.size + 1) G G2 T T2 A B2 Q Q2 Z Z2 m m2 a a2 n c n2 c2 l l2 := by
  have k : Keep (fun _ => False) w ((w.alloc (.cells (hd (.slice a n c) G T A Q Z m).toArray 26)).alloc (.cells (hd (.slice a2 n2 c2) G2 T2 B2 Q2 Z2 m2).toArray 26)) := ((Keep.refl _ _).alloc _).alloc _
  refine ⟨(HAt.new w hm).calm ((Keep.refl _ _).alloc _), ?_, h1.calm k, h2.calm k, ⟨hT.1.keep k (fun h => h), hT.2.keep k (fun h => h)⟩, k⟩
  have := HAt.new (pv := .slice a2 n2 c2) (G := G2) (T := T2) (A := B2) (Q := Q2) (Z := Z2) (w.alloc (.cells (hd (.slice a n c) G T A Q Z m).toArray 26)) hm2
  rwa [World.size_alloc] at this
end
end Hd
end Go.Proofs.YthllhjdaknmlbaaDoor
