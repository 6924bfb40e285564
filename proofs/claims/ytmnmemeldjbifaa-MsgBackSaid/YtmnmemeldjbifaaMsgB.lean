/-
  petrellaw09's awake; what comes in.
-/
import Derived.Test.YtmnmemeldjbifaaMsgA
import Derived.Test.YtmnmemeldjbifaaOpnS
namespace Go.Proofs.Ytmnmemeldjbifaa
open Go.RowKit
namespace Ms
open Oct Ids Go.ChangeShapes Go.WideShapes Go.ChangeAt
open Ref (endv)

def S4 : ByteArray := ⟨#[8, 0, 1, 120]⟩
theorem of_post (w : World) (s : ByteArray) : Calls Try.prog 12 #[.string s] w (OfPost w s) := (of_both w s).1
theorem rof_post (w : World) (s : ByteArray) : Calls Try.prog 13 #[.string s] w (OfPost w s) := (of_both w s).2
set_option maxRecDepth 100000 in
theorem awake_true (w : World) : Calls Try.prog 11 #[] w fun e w' => e = .returned (.bool true) ∧ Keep (fun _ => False) w w' := by
  have e1 : pv 2 0 ByteArray.empty [] = ⟨#[2, 0]⟩ := by decide +kernel
  have e2 : chk 2 0 ByteArray.empty = 0 := by decide +kernel
  have e3 : (ofv S4).e = 0 := by decide +kernel
  have e4 : (ofv S4).B = ⟨#[120]⟩ := by decide +kernel
  have Hp : Hid (∀ w, _) := fun w => put_any w 2 none 0 0 ByteArray.empty [] ⟨rfl, by simp, Nat.zero_le _, .inl rfl⟩
  have Ho : Hid (∀ w, _) := fun w => of_post w S4
  unfold OfPost at Ho
  rw [e1, e2] at Hp
  rw [e3, e4] at Ho
  clear e1 e2 e3 e4
  generalize (ofv S4).K = K at Ho
  generalize (ofv S4).ids = l at Ho
  go_enter Try.func11, Try.ntmps11
  go_wp2_with (first | (go_at_call 15; refine (Hp.out _).mono ?_; rintro e w1 ⟨rfl, k1⟩; have K1 : Hid _ := k1; clear k1) | (go_at_call 12; refine (Ho.out _).mono ?_; rintro e w2 ⟨va, vc, rfl, _, _, k1⟩; have K2 : Hid _ := k1; clear k1))
  go_ret
  exact ⟨rfl, (K1.out.trans K2.out).alloc _⟩
/-- A message that came in. -/
abbrev OMsg := Int × Opn.Sl (List UInt8) × ByteArray × Unit
def layM (x : OMsg) : List Value := [.int .i64 x.1, .slice x.2.1.a x.2.1.len x.2.1.cap, .string x.2.2.1]
def factM (W : World) (x : OMsg) : Prop := At W x.2.1.a x.2.1.len x.2.1.els ∧ x.2.2.1.size ≤ maxLen
theorem rdId : Opn.Rd Try.prog 41 32 (fun x : List UInt8 => x.map bv) (fun _ x => x.length = 32) (fun _ => 32) :=
  Opn.rd_bytes Try.underlying41 Try.underlying5 (by kernel_rfl) (by kernel_rfl)
theorem rdIdl : Opn.Rd Try.prog 23 1 (fun x : Opn.Sl (List UInt8) => [x.val]) (Opn.SlAt 32 (fun x => x.map bv) fun _ x => x.length = 32) (fun x => (x.els.map fun _ => 32).sum + 1) :=
  Opn.rd_slice Try.underlying23 (by kernel_rfl) (by omega) rdId
theorem at_of {W : World} {s : Opn.Sl (List UInt8)} (h : Opn.SlAt 32 (fun x => x.map bv) (fun _ x => x.length = 32) W s) : At W s.a s.len s.els := by
  obtain ⟨h1, h2, h3, h4⟩ := h
  refine ⟨h1, fun x hx => ?_, Nat.le_trans h2 h3, ?_⟩
  · rcases h4 with h4 | ⟨b, off, _, _, hel⟩
    · rw [h4] at h1
      rw [List.eq_nil_of_length_eq_zero h1] at hx
      cases hx
    · obtain ⟨i, hi⟩ := List.getElem?_of_mem hx
      exact (hel i x hi).2
  · exact h4.imp id fun ⟨b, off, ha, hb, hel⟩ => ⟨b, off, ha, hb, fun i x hi => (hel i x hi).1⟩
theorem rdM : Opn.Rd Try.prog 25 3 layM factM (fun x => x.2.2.1.size) := by
  have hi := Opn.rd_int (P := Try.prog) (T := 3) Try.underlying3 (by kernel_rfl)
  have hs := Opn.rd_string (P := Try.prog) (T := 9) Try.underlying9 (by kernel_rfl)
  have h := Opn.rd_struct (T := 25) Try.underlying25 (by kernel_rfl) (Opn.rdf_cons hi rfl (Opn.rdf_cons rdIdl rfl (Opn.rdf_cons hs rfl Opn.rdf_nil)))
  refine ⟨h.size, fun W x hx => rfl, fun H enc W fuel cs y hy => ?_, fun W W' x hl hx => ?_⟩
  · obtain ⟨x, e, ⟨f1, f2, f3, _⟩, b⟩ := h.op H enc W fuel cs y hy
    exact ⟨x, e, ⟨at_of f2, f3⟩, by have b' : 1 + ((x.2.1.els.map fun _ => 32).sum + 1 + (x.2.2.1.size + 1 + 0)) + 1 ≤ Rows.uptoBulk y.1 := b; omega⟩
  · obtain ⟨h1, h2⟩ := hx
    refine ⟨⟨h1.len, h1.size, h1.most, h1.lay.imp id ?_⟩, h2⟩
    rintro ⟨b, off, ha, hb, hel⟩
    have ho := hl b W.heap[b] (Array.getElem?_eq_getElem hb)
    exact ⟨b, off, ha, (Array.getElem?_eq_some_iff.1 ho).1, fun i x hi => hl.range (hel i x hi)⟩
theorem open_st {P : Program} {T : TypeId} {fs : Array Field} {n : Nat} {β : Type} {lay : β → List Value} {fact : World → β → Prop} {bk : β → Nat} {H : Type} {enc : TypeId × Value → H} {W : World} {base : Nat} {v : Value} {d : DataW H} {p : List MemPlace}
    (hT : P.underlying T = some (.struct fs)) (hr : Opn.Rd P T n lay fact bk) (hval : Value.okWide P W .any base T v)
    (h : DataW.Trod enc P W 0 (fun _ => true) true T v d p) : ∃ x : β, v = .agg (lay x).toArray ∧ fact W x ∧ bk x ≤ Rows.uptoBulk d := by
  obtain ⟨cs, rfl, _⟩ := okWide_struct hT hval
  obtain ⟨fuel, hf⟩ := h
  obtain ⟨x, e, h1, h2⟩ := hr.op H enc W fuel _ _ hf
  refine ⟨x, ?_, h1, h2⟩
  rw [← e]
  simp [Value.cells]
end Ms
end Go.Proofs.Ytmnmemeldjbifaa
