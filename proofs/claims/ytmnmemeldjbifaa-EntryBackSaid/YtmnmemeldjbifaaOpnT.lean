/-
  A struct that came in, opened; loads of structs in drawn regions.
-/
import Derived.Test.YtmnmemeldjbifaaOpnS
import Derived.Test.YtmnmemeldjbifaaIds1
import Derived.Test.YtmnmemeldjbifaaText3
set_option linter.unusedVariables false
set_option linter.unusedSimpArgs false
namespace Go.Proofs.Ytmnmemeldjbifaa
open Go.RowKit Go.ChangeShapes Go.WideShapes Go.ChangeAt
namespace Opn
theorem open_st {P : Program} {T : TypeId} {fs : Array Field} {n : Nat} {β : Type} {lay : β → List Value} {fact : World → β → Prop} {bk : β → Nat} {H : Type} {enc : TypeId × Value → H} {W : World} {base : Nat} {v : Value} {d : DataW H} {p : List MemPlace}
    (hT : P.underlying T = some (.struct fs)) (hr : Rd P T n lay fact bk) (hval : Value.okWide P W .any base T v)
    (h : DataW.Trod enc P W 0 (fun _ => true) true T v d p) : ∃ x : β, v = .agg (lay x).toArray ∧ fact W x ∧ bk x ≤ Rows.uptoBulk d := by
  obtain ⟨cs, rfl, _⟩ := okWide_struct hT hval
  obtain ⟨fuel, hf⟩ := h
  obtain ⟨x, e, h1, h2⟩ := hr.op H enc W fuel _ _ hf
  refine ⟨x, ?_, h1, h2⟩
  rw [← e]
  simp [Value.cells]
theorem rd_id : Rd Try.prog 41 32 (fun x : List UInt8 => x.map Oct.bv) (fun _ x => x.length = 32) (fun _ => 32) :=
  rd_bytes Try.underlying41 Try.underlying5 (by kernel_rfl) (by kernel_rfl)
theorem rd_i : Rd Try.prog 3 1 (fun x : Int => [Value.int .i64 x]) (fun _ x => (Lit.int .i64 x).wf = true) (fun _ => 1) := rd_int Try.underlying3 (by kernel_rfl)
theorem rd_s : Rd Try.prog 9 1 (fun x : ByteArray => [Value.string x]) (fun _ x => x.size ≤ maxLen) (fun x => x.size + 1) := rd_string Try.underlying9 (by kernel_rfl)
end Opn
namespace Txt
section
variable {P : Program} {ops : Array Oper} {S : World → Prop}
variable {Q : Act → World → Prop} {o : Oper} {rest : List Oper} {ts : List Nat} {a : Act} {w : World} {v : Value}
theorem tl_rowN {n : Nat} (hw : Region.wanted o (yielded ops a.tmps) = true) {ty : TypeId} {x : Operand} {b i : Nat} {cs : List Value} (ho : o.op = .load ty x) (he : a.eval x = .pointer (some ⟨b, i, none⟩)) (hc : w.rangeAt b i cs) (ht : rowTy P ty n = true) (hn : cs.length = n)
    (k : wpTG P ops S Q rest ts (a.put o.dst (.agg cs.toArray)) w) : wpTG P ops S Q (o :: rest) (1 :: ts) a w :=
  tl_loadRow hw ho he hc (by rw [hn]; exact ht) k
theorem tl_rowSN {n : Nat} (hw : Region.wanted o (yielded ops a.tmps) = true) {ty : TypeId} {x : Operand} {b i : Nat} {cs : List Value} (ho : o.op = .load ty x) (he : a.eval x = .pointer (some ⟨b, i, none⟩)) (hc : ∀ w2, S w2 → w2.rangeAt b i cs) (ht : rowTy P ty n = true) (hn : cs.length = n)
    (k : wpTG P ops S Q rest ts (a.put o.dst (.agg cs.toArray)) w) : wpTG P ops S Q (o :: rest) (2 :: ts) a w :=
  tl_loadRowS hw ho he hc (by rw [hn]; exact ht) k
end
end Txt
end Go.Proofs.Ytmnmemeldjbifaa
