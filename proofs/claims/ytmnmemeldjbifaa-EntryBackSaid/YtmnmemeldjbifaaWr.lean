/-
  The writer that a function has made: one bundle.
-/
import Derived.Test.YtmnmemeldjbifaaOct4
set_option linter.unusedVariables false
set_option linter.unusedSimpArgs false
namespace Go.Proofs.Ytmnmemeldjbifaa
open Go.RowKit
namespace OctW
open Oct
theorem done_ok (w : World) (b : Nat) (bs : List UInt8) (sv : Value) (h : IsW w b bs 0 sv) :
    Calls Try.prog 48 #[.pointer (some ⟨b, 0, none⟩)] w fun e w' => e = .returned (.tuple #[.string ⟨bs.toArray⟩, .int .i64 0]) ∧ Keep (fun _ => False) w w' := by
  refine (done_any w b bs 0 sv h).mono ?_
  rintro e w' ⟨rfl, k⟩
  exact ⟨rfl, k⟩
theorem wtext_ok (w : World) (b : Nat) (bs : List UInt8) (s : ByteArray) (sv : Value) (h : IsW w b bs 0 sv) (hl : bs.length ≤ 10000000000) (hs : s.size ≤ 65535) :
    Calls Try.prog 47 #[.pointer (some ⟨b, 0, none⟩), .string s] w fun e w' => e = .returned (.pointer (some ⟨b, 0, none⟩)) ∧ ∃ sv', IsW w' b (bs ++ (be 2 s.size ++ s.data.toList)) 0 sv' ∧ After w w' b sv sv' := by
  have e : wtext (bs, 0) s = (bs ++ (be 2 s.size ++ s.data.toList), 0) := by unfold wtext; rw [if_neg (by simp), if_neg (by omega), List.append_assoc]
  have := text_any w b bs 0 s sv h (by omega) (by unfold maxLen; omega)
  rwa [e] at this
theorem wraw_ok (w : World) (b : Nat) (bs : List UInt8) (s : ByteArray) (sv : Value) (h : IsW w b bs 0 sv) (hl : bs.length + s.size ≤ 10000000000) :
    Calls Try.prog 49 #[.pointer (some ⟨b, 0, none⟩), .string s] w fun e w' => e = .returned (.pointer (some ⟨b, 0, none⟩)) ∧ ∃ sv', IsW w' b (bs ++ s.data.toList) 0 sv' ∧ After w w' b sv sv' := by
  have e : wraw (bs, 0) s = (bs ++ s.data.toList, 0) := by unfold wraw; rw [if_neg (by simp)]
  have := raw_any w b bs 0 s sv h (by omega)
  rwa [e] at this
/-- The writer that a function has made: its frame, seen from the world where the function began. -/
structure Wr (w w' : World) (bw : Nat) (bs : List UInt8) : Prop where
  ok : ∃ sv, IsW w' bw bs 0 sv ∧ ∀ x, sv.ownBlock = some x → bw < x
  keep : Keep (fun _ => False) w w'
  new : w.heap.size ≤ bw
section
variable {w w' : World} {bw : Nat} {bs : List UInt8}
theorem Wr.calm (h : Wr w w' bw bs) {w'' : World} (k : Keep (fun _ => False) w' w'') : Wr w w'' bw bs := by
  obtain ⟨sv, h1, h2⟩ := h.ok
  exact ⟨⟨sv, h1.keep k (fun h => h) (fun _ _ h => h), h2⟩, h.keep.trans k, h.new⟩
theorem Wr.wrote (h : Wr w w' bw bs) {w'' : World} {bs' : List UInt8} {sv sv' : Value} (h0 : IsW w' bw bs 0 sv) (h2 : ∀ x, sv.ownBlock = some x → bw < x) (hw : IsW w'' bw bs' 0 sv') (k : After w' w'' bw sv sv') : Wr w w'' bw bs' := by
  have hn := h.new
  have hz := lt_of_block h0.blk
  refine ⟨⟨sv', hw, fun x hx => ?_⟩, h.keep.trans' k.1 (fun _ _ h => h) (fun y hy e => ?_), hn⟩
  · rcases k.2 x hx with e | e
    · exact h2 x e
    · omega
  · rcases e with e | e
    · omega
    · have := h2 y e; omega
theorem new_wr (w : World) : Calls Try.prog 45 #[] w fun e w' => e = .returned (.pointer (some ⟨w.heap.size, 0, none⟩)) ∧ Wr w w' w.heap.size [] := by
  refine (new_any w).mono ?_
  rintro e w' ⟨rfl, h, k⟩
  exact ⟨rfl, ⟨_, h, fun x hx => by simp [Value.ownBlock] at hx⟩, k, Nat.le_refl _⟩
theorem num1_wr (h : Wr w w' bw bs) (n : Int) (hn : 0 ≤ n) (hn' : n < 256) (hl : bs.length ≤ 1000000000) :
    Calls Try.prog 46 #[.pointer (some ⟨bw, 0, none⟩), .int .i64 n, .int .i64 1] w' fun e w'' => e = .returned (.pointer (some ⟨bw, 0, none⟩)) ∧ Wr w w'' bw (bs ++ be 1 n) := by
  obtain ⟨sv, h0, h2⟩ := h.ok
  refine (num_ok1 w' bw bs n sv h0 hn (by simpa using hn') (by omega)).mono ?_
  rintro e w'' ⟨rfl, sv', h3, h4⟩
  exact ⟨rfl, h.wrote h0 h2 h3 h4⟩
theorem num2_wr (h : Wr w w' bw bs) (n : Int) (hn : 0 ≤ n) (hn' : n < 65536) (hl : bs.length ≤ 1000000000) :
    Calls Try.prog 46 #[.pointer (some ⟨bw, 0, none⟩), .int .i64 n, .int .i64 2] w' fun e w'' => e = .returned (.pointer (some ⟨bw, 0, none⟩)) ∧ Wr w w'' bw (bs ++ be 2 n) := by
  obtain ⟨sv, h0, h2⟩ := h.ok
  refine (num_ok2 w' bw bs n sv h0 hn (by simpa using hn') (by omega)).mono ?_
  rintro e w'' ⟨rfl, sv', h3, h4⟩
  exact ⟨rfl, h.wrote h0 h2 h3 h4⟩
theorem num4_wr (h : Wr w w' bw bs) (n : Int) (hn : 0 ≤ n) (hn' : n < 4294967296) (hl : bs.length ≤ 1000000000) :
    Calls Try.prog 46 #[.pointer (some ⟨bw, 0, none⟩), .int .i64 n, .int .i64 4] w' fun e w'' => e = .returned (.pointer (some ⟨bw, 0, none⟩)) ∧ Wr w w'' bw (bs ++ be 4 n) := by
  obtain ⟨sv, h0, h2⟩ := h.ok
  refine (num_ok4 w' bw bs n sv h0 hn (by simpa using hn') (by omega)).mono ?_
  rintro e w'' ⟨rfl, sv', h3, h4⟩
  exact ⟨rfl, h.wrote h0 h2 h3 h4⟩
theorem text_wr (h : Wr w w' bw bs) (s : ByteArray) (hl : bs.length ≤ 1000000000) (hs : s.size ≤ 65535) :
    Calls Try.prog 47 #[.pointer (some ⟨bw, 0, none⟩), .string s] w' fun e w'' => e = .returned (.pointer (some ⟨bw, 0, none⟩)) ∧ Wr w w'' bw (bs ++ (be 2 s.size ++ s.data.toList)) := by
  obtain ⟨sv, h0, h2⟩ := h.ok
  refine (wtext_ok w' bw bs s sv h0 (by omega) hs).mono ?_
  rintro e w'' ⟨rfl, sv', h3, h4⟩
  exact ⟨rfl, h.wrote h0 h2 h3 h4⟩
theorem raw_wr (h : Wr w w' bw bs) (s : ByteArray) (hl : bs.length + s.size ≤ 1000000000) :
    Calls Try.prog 49 #[.pointer (some ⟨bw, 0, none⟩), .string s] w' fun e w'' => e = .returned (.pointer (some ⟨bw, 0, none⟩)) ∧ Wr w w'' bw (bs ++ s.data.toList) := by
  obtain ⟨sv, h0, h2⟩ := h.ok
  refine (wraw_ok w' bw bs s sv h0 (by omega)).mono ?_
  rintro e w'' ⟨rfl, sv', h3, h4⟩
  exact ⟨rfl, h.wrote h0 h2 h3 h4⟩
theorem done_wr (h : Wr w w' bw bs) :
    Calls Try.prog 48 #[.pointer (some ⟨bw, 0, none⟩)] w' fun e w'' => e = .returned (.tuple #[.string ⟨bs.toArray⟩, .int .i64 0]) ∧ Keep (fun _ => False) w w'' := by
  obtain ⟨sv, h0, h2⟩ := h.ok
  refine (done_ok w' bw bs sv h0).mono ?_
  rintro e w'' ⟨rfl, k⟩
  exact ⟨rfl, h.keep.trans k⟩
end
end OctW
end Go.Proofs.Ytmnmemeldjbifaa
