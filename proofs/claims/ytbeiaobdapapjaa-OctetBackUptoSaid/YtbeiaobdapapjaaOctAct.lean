/-
  Rows of calls that come in.
-/
import Derived.Test.YtbeiaobdapapjaaAwake1
import Derived.Test.YtbeiaobdapapjaaOpen
namespace Go.Proofs.Ytbeiaobdapapjaa
open Go.RowKit
namespace Act1
open Oct

abbrev OAct := Int × Int × Int × ByteArray × Unit
def lay (x : OAct) : List Value := [.int .i64 x.1, .int .i64 x.2.1, .int .i64 x.2.2.1, .string x.2.2.2.1]
def fact (_ : World) (x : OAct) : Prop := (Lit.int .i64 x.1).wf = true ∧ (Lit.int .i64 x.2.1).wf = true ∧ (Lit.int .i64 x.2.2.1).wf = true ∧ x.2.2.2.1.size ≤ maxLen
def bulk (x : OAct) : Nat := x.2.2.2.1.size
theorem rd : Opn.Rd Try.prog 26 4 lay fact bulk := by
  have hi := Opn.rd_int (P := Try.prog) (T := 3) Try.underlying3 (by kernel_rfl)
  have hs := Opn.rd_string (P := Try.prog) (T := 9) Try.underlying9 (by kernel_rfl)
  have h := Opn.rd_struct (T := 26) Try.underlying26 (by kernel_rfl) (Opn.rdf_cons hi rfl (Opn.rdf_cons hi rfl (Opn.rdf_cons hi rfl (Opn.rdf_cons hs rfl Opn.rdf_nil))))
  refine ⟨h.size, fun W x hx => rfl, fun H enc W fuel cs y hy => ?_, fun W W' x _ hx => hx⟩
  obtain ⟨x, e, ⟨f1, f2, f3, f4, _⟩, b⟩ := h.op H enc W fuel cs y hy
  exact ⟨x, e, ⟨f1, f2, f3, f4⟩, by simp only [bulk] at *; omega⟩
theorem rdl : Opn.Rd Try.prog 22 1 (fun x : Opn.Sl OAct => [x.val]) (Opn.SlAt 4 lay fact) (fun x => (x.els.map bulk).sum + 1) :=
  Opn.rd_slice Try.underlying22 (by kernel_rfl) (by omega) rd
theorem cells4 {W w : World} {b0 o : Nat} {x : OAct} (hr : W.rangeAt b0 o (lay x)) (hk : Keep (fun y => W.heap.size ≤ y) W w) (hb : b0 < W.heap.size) :
    w.cell? ⟨b0, o, none⟩ = some (.int .i64 x.1) ∧ w.cell? ⟨b0, o + 1, none⟩ = some (.int .i64 x.2.1) ∧ w.cell? ⟨b0, o + 2, none⟩ = some (.int .i64 x.2.2.1) ∧ w.cell? ⟨b0, o + 3, none⟩ = some (.string x.2.2.2.1) := by
  have hn : ¬ W.heap.size ≤ b0 := by omega
  exact ⟨(hk.cell hb hn).trans (hr 0 _ rfl), (hk.cell hb hn).trans (hr 1 _ rfl), (hk.cell hb hn).trans (hr 2 _ rfl), (hk.cell hb hn).trans (hr 3 _ rfl)⟩
end Act1
end Go.Proofs.Ytbeiaobdapapjaa
