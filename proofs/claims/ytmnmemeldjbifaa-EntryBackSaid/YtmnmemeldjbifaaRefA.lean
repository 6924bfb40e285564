/-
  petrelref01's Reader, told as octet's: the whole text, and where it stands.
-/
import Derived.Test.YtmnmemeldjbifaaIds6
import Derived.Test.YtmnmemeldjbifaaRdLaw
set_option linter.unusedVariables false
set_option linter.unusedSimpArgs false
namespace Go.Proofs.Ytmnmemeldjbifaa
open Go.RowKit
namespace Ref
open Oct Ids OctRd

/-- What the reader's end answers. -/
def endv (s : ByteArray) (a : Nat) (b : Int) : Int := if b = 0 then (if a = s.size then 0 else 4) else b
structure IsXa (w : World) (b : Nat) (s : ByteArray) (a : Nat) (bad : Int) : Prop where
  x : IsX w b (s.extract a s.size) bad
  le : a ≤ s.size
section
variable {w : World} {b : Nat} {s : ByteArray} {a : Nat} {bad : Int}
theorem IsXa.keep (h : IsXa w b s a bad) {w' : World} {S : Nat → Prop} (hk : Keep S w w') (h1 : ¬ S b) : IsXa w' b s a bad := ⟨h.x.keep hk h1, h.le⟩
theorem IsXa.lt (h : IsXa w b s a bad) : b < w.heap.size := lt_of_block h.x.blk
theorem IsXa.err (h : IsXa w b s a bad) : w.cell? ⟨b, 1, none⟩ = some (.int .i64 bad) := by rw [cell_of h.x.blk]; rfl
theorem xa_new (w : World) (s : ByteArray) (hs : s.size ≤ maxLen) : IsXa (w.alloc (.cells #[.string s, .int .i64 0] 76)) w.heap.size s 0 0 :=
  ⟨⟨by rw [ByteArray.extract_zero_size]; exact heap_alloc_new w _, by rw [ByteArray.extract_zero_size]; exact hs⟩, Nat.zero_le _⟩
theorem xnum_a (h : IsXa w b s a bad) {k : Int} {n a' : Nat} {b' : Int} (hv : rnum s a bad k = (n, a', b')) : Calls Try.prog 39 #[.pointer (some ⟨b, 0, none⟩), .int .i64 k] w fun en w' =>
    en = .returned (.int .i64 n) ∧ IsXa w' b s a' b' ∧ Keep (fun k => k = b) w w' := by
  have hl := num_law s a bad k h.le
  have hle := rnum_le s a bad k h.le
  have := xnum_any w b _ bad k h.x
  rw [hl, hv] at this
  rw [hv] at hle
  exact this.mono fun en w' ⟨h1, h2, h3⟩ => ⟨h1, ⟨h2, hle⟩, h3⟩
theorem xraw_a (h : IsXa w b s a bad) {k : Int} {x : ByteArray} {a' : Nat} {b' : Int} (hv : rraw s a bad k = (x, a', b')) : Calls Try.prog 66 #[.pointer (some ⟨b, 0, none⟩), .int .i64 k] w fun en w' =>
    en = .returned (.string x) ∧ IsXa w' b s a' b' ∧ Keep (fun k => k = b) w w' := by
  have hl := raw_law s a bad k h.le
  have hle := rraw_le s a bad k h.le
  have := xraw_any w b _ bad k h.x
  rw [hl, hv] at this
  rw [hv] at hle
  exact this.mono fun en w' ⟨h1, h2, h3⟩ => ⟨h1, ⟨h2, hle⟩, h3⟩
theorem rtext_le (s : ByteArray) (a : Nat) (bad m : Int) (h : a ≤ s.size) : (rtext s a bad m).2.1 ≤ s.size := by
  have h1 := rnum_le s a bad 2 h
  unfold rtext
  simp only
  split
  · exact h1
  · split
    · exact h1
    · exact rraw_le s _ _ _ h1
theorem xtext_a (h : IsXa w b s a bad) {k : Int} {x : ByteArray} {a' : Nat} {b' : Int} (hv : rtext s a bad k = (x, a', b')) : Calls Try.prog 42 #[.pointer (some ⟨b, 0, none⟩), .int .i64 k] w fun en w' =>
    en = .returned (.string x) ∧ IsXa w' b s a' b' ∧ Keep (fun k => k = b) w w' := by
  have hl := text_law s a bad k h.le
  have hle := rtext_le s a bad k h.le
  have := xtext_any w b _ bad k h.x
  rw [hl, hv] at this
  rw [hv] at hle
  exact this.mono fun en w' ⟨h1, h2, h3⟩ => ⟨h1, ⟨h2, hle⟩, h3⟩
theorem xid_a (h : IsXa w b s a bad) {x : ByteArray} {a' : Nat} {b' : Int} (hv : rraw s a bad 32 = (x, a', b')) : Calls Try.prog 41 #[.pointer (some ⟨b, 0, none⟩)] w fun en w' =>
    en = .returned (idv (pad x.data.toList)) ∧ IsXa w' b s a' b' ∧ Keep (fun k => k = b) w w' := by
  have hl := raw_law s a bad 32 h.le
  have hle := rraw_le s a bad 32 h.le
  rw [hv] at hl hle
  exact (xid_any w b _ bad x _ b' h.x hl).mono fun en w' ⟨h1, h2, h3⟩ => ⟨h1, ⟨h2, hle⟩, h3⟩
theorem xend_a (h : IsXa w b s a bad) {v : Int} (hv : endv s a bad = v) : Calls Try.prog 43 #[.pointer (some ⟨b, 0, none⟩)] w fun en w' =>
    en = .returned (.int .i64 v) ∧ w = w' := by
  have e : xendv (s.extract a s.size) bad = endv s a bad := by
    unfold xendv endv
    rw [ByteArray.size_extract]
    have hle := h.le
    have : (min s.size s.size - a = 0) = (a = s.size) := by rw [Nat.min_self]; apply propext; omega
    simp only [this]
  have := xend_any w b _ bad h.x
  rw [e, hv] at this
  exact this
end
end Ref
end Go.Proofs.Ytmnmemeldjbifaa
