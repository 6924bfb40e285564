/-
  Contracts of the writer's methods, whatever the arguments.
-/
import Derived.Test.YtmnmemeldjbifaaOct2
import Derived.Lib.BufferRead
set_option linter.unusedVariables false
set_option linter.unusedSimpArgs false
namespace Go.Proofs.Ytmnmemeldjbifaa
open Go.RowKit
namespace Oct

/-- The writer's block with another error. -/
theorem IsW.setBad {w : World} {b : Nat} {bs : List UInt8} {bad : Int} {sv : Value} (h : IsW w b bs bad sv) (x : Int) : IsW (w.setCell ⟨b, 1, none⟩ (.int .i64 x)) b bs x sv :=
  ⟨by rw [block_set h.blk]; rfl, (Keep.setCell (Keep.refl (fun k => k = b) w) ⟨b, 1, none⟩ _ (fun _ => rfl)).row h.own (fun k hk e => h.ne (by rw [hk, e])), h.ne⟩
theorem IsW.keep {w w' : World} {b : Nat} {bs : List UInt8} {bad : Int} {sv : Value} (h : IsW w b bs bad sv) {S : Nat → Prop} (hk : Keep S w w') (h1 : ¬ S b) (h2 : ∀ k, sv.ownBlock = some k → ¬ S k) : IsW w' b bs bad sv :=
  ⟨hk.get h.blk h1, hk.row h.own h2, h.ne⟩
theorem After.refl (w : World) (b : Nat) (sv : Value) : After w w b sv sv := ⟨Keep.refl _ _, fun _ h => .inl h⟩
theorem After.trans {w w1 w2 : World} {b : Nat} {s s1 s2 : Value} (h : After w w1 b s s1) (k : After w1 w2 b s1 s2) : After w w2 b s s2 :=
  ⟨h.1.trans' k.1 (fun _ _ h => h) (fun x hx hs => by
    rcases hs with hs | hs
    · exact .inl hs
    · rcases h.2 x hs with e | e
      · exact .inr e
      · omega), fun x hx => by
    rcases k.2 x hx with e | e
    · exact h.2 x e
    · exact .inr (Nat.le_trans h.1.size e)⟩

/-- What 'Num' makes of what is written, and the error. -/
def wnum (s : List UInt8 × Int) (n k : Int) : List UInt8 × Int :=
  if s.2 ≠ 0 then s else if nbits k = 0 then (s.1, 1) else if n < 0 ∨ 256 ^ (nbits k / 8).toNat ≤ n then (s.1, 5) else (s.1 ++ be (nbits k / 8).toNat n, 0)

set_option maxRecDepth 100000 in
theorem num_bad (w : World) (b : Nat) (bs : List UInt8) (bad n k : Int) (sv : Value) (h : IsW w b bs bad sv) (hb : bad ≠ 0) :
    Calls Try.prog 46 #[.pointer (some ⟨b, 0, none⟩), .int .i64 n, .int .i64 k] w fun e w' => e = .returned (.pointer (some ⟨b, 0, none⟩)) ∧ w = w' := by
  have hc0 : w.cell? ⟨b, 0, none⟩ = some sv := by rw [cell_of h.blk]; rfl
  have hc1 : w.cell? ⟨b, 1, none⟩ = some (.int .i64 bad) := by rw [cell_of h.blk]; rfl
  have hc2 : w.cell? ⟨b, 2, none⟩ = some (.bool true) := by rw [cell_of h.blk]; rfl
  have hbl : b < w.heap.size := lt_of_block h.blk
  have hb' : (bad != 0) = true := by simpa using hb
  go_enter_defers Try.func46, Try.ntmps46
  go_wp2_with (first | (go_at_call 71; refine (wnone _ _ _ (by first | exact hc2 | (simp; exact hc2))).mono ?_; rintro e w' ⟨rfl, rfl⟩))
  exact ⟨_, results_tmp rfl _ _ _, rfl, rfl⟩

set_option maxRecDepth 100000 in
theorem num_arg (w : World) (b : Nat) (bs : List UInt8) (n k : Int) (sv : Value) (h : IsW w b bs 0 sv) (hk : nbits k = 0) :
    Calls Try.prog 46 #[.pointer (some ⟨b, 0, none⟩), .int .i64 n, .int .i64 k] w fun e w' => e = .returned (.pointer (some ⟨b, 0, none⟩)) ∧ IsW w' b bs 1 sv ∧ After w w' b sv sv := by
  have hc0 : w.cell? ⟨b, 0, none⟩ = some sv := by rw [cell_of h.blk]; rfl
  have hc1 : w.cell? ⟨b, 1, none⟩ = some (.int .i64 0) := by rw [cell_of h.blk]; rfl
  have hc2 : w.cell? ⟨b, 2, none⟩ = some (.bool true) := by rw [cell_of h.blk]; rfl
  have hbl : b < w.heap.size := lt_of_block h.blk
  have hne : ¬ b = w.heap.size := by omega
  have hne2 : ¬ w.heap.size = b := by omega
  go_enter_defers Try.func46, Try.ntmps46
  go_wp2_with (first | (go_at_call 71; refine (wnone _ _ _ (by first | exact hc2 | (simp; exact hc2))).mono ?_; rintro e w' ⟨rfl, rfl⟩) | (go_at_call 68; refine (bits_is _ 0 _ hk).mono ?_; rintro e w' ⟨rfl, rfl⟩))
  refine leaves_cons (f := 72) (args := #[.pointer (some ⟨b, 0, none⟩), .pointer (some ⟨w.heap.size, 0, none⟩)]) (by simp) (by simp [go_sem]) ?_
  refine (fail_d b w.heap.size 0 1 .returning _ (by rw [cell_of (heap_a h.blk)]; rfl) (by rw [cell_of (heap_alloc_new w _)]; rfl) (free_of (heap_a h.blk))).mono ?_
  rintro e u' w'' ⟨rfl, rfl, rfl⟩
  refine ⟨_, results_tmp rfl _ _ _, rfl, ?_⟩
  rw [if_pos rfl]
  exact ⟨(h.alloc _).setBad 1, ((Keep.refl _ _).alloc _).setCell _ _ (fun _ => .inl rfl), fun _ h => .inl h⟩

set_option maxRecDepth 100000 in
theorem num_neg (w : World) (b : Nat) (bs : List UInt8) (n k : Int) (sv : Value) (h : IsW w b bs 0 sv) (hk : nbits k ≠ 0) (hn : n < 0) :
    Calls Try.prog 46 #[.pointer (some ⟨b, 0, none⟩), .int .i64 n, .int .i64 k] w fun e w' => e = .returned (.pointer (some ⟨b, 0, none⟩)) ∧ IsW w' b bs 5 sv ∧ After w w' b sv sv := by
  have hc0 : w.cell? ⟨b, 0, none⟩ = some sv := by rw [cell_of h.blk]; rfl
  have hc1 : w.cell? ⟨b, 1, none⟩ = some (.int .i64 0) := by rw [cell_of h.blk]; rfl
  have hc2 : w.cell? ⟨b, 2, none⟩ = some (.bool true) := by rw [cell_of h.blk]; rfl
  have hbl : b < w.heap.size := lt_of_block h.blk
  have hne : ¬ b = w.heap.size := by omega
  have hne2 : ¬ w.heap.size = b := by omega
  obtain ⟨v, hv⟩ : ∃ v, nbits k = v := ⟨_, rfl⟩
  have hv0 : (v == 0) = false := by rw [← hv]; simpa using hk
  have Hv : Hid (nbits k = v) := hv
  clear hv hk
  go_enter_defers Try.func46, Try.ntmps46
  go_wp2_with (first | (go_at_call 71; refine (wnone _ _ _ (by first | exact hc2 | (simp; exact hc2))).mono ?_; rintro e w' ⟨rfl, rfl⟩) | (go_at_call 68; refine (bits_is _ v _ Hv.out).mono ?_; rintro e w' ⟨rfl, rfl⟩))
  refine leaves_cons (f := 72) (args := #[.pointer (some ⟨b, 0, none⟩), .pointer (some ⟨w.heap.size, 0, none⟩)]) (by simp) (by simp [go_sem]) ?_
  refine (fail_d b w.heap.size 0 5 .returning _ (by rw [cell_of (heap_a h.blk)]; rfl) (by rw [cell_of (heap_alloc_new w _)]; rfl) (free_of (heap_a h.blk))).mono ?_
  rintro e u' w'' ⟨rfl, rfl, rfl⟩
  refine ⟨_, results_tmp rfl _ _ _, rfl, ?_⟩
  rw [if_pos rfl]
  exact ⟨(h.alloc _).setBad 5, ((Keep.refl _ _).alloc _).setCell _ _ (fun _ => .inl rfl), fun _ h => .inl h⟩

set_option maxRecDepth 100000 in
theorem num_big1 (w : World) (b : Nat) (bs : List UInt8) (n : Int) (sv : Value) (h : IsW w b bs 0 sv) (hn0 : 0 ≤ n) (hn : 256 ≤ n) :
    Calls Try.prog 46 #[.pointer (some ⟨b, 0, none⟩), .int .i64 n, .int .i64 1] w fun e w' => e = .returned (.pointer (some ⟨b, 0, none⟩)) ∧ IsW w' b bs 5 sv ∧ After w w' b sv sv := by
  have hc0 : w.cell? ⟨b, 0, none⟩ = some sv := by rw [cell_of h.blk]; rfl
  have hc1 : w.cell? ⟨b, 1, none⟩ = some (.int .i64 0) := by rw [cell_of h.blk]; rfl
  have hc2 : w.cell? ⟨b, 2, none⟩ = some (.bool true) := by rw [cell_of h.blk]; rfl
  have hbl : b < w.heap.size := lt_of_block h.blk
  have hne : ¬ b = w.heap.size := by omega
  have hne2 : ¬ w.heap.size = b := by omega
  have hd : (n / 256 != 0) = true := by simp; omega
  go_enter_defers Try.func46, Try.ntmps46
  go_wp2_with (first | (go_at_call 71; refine (wnone _ _ _ (by first | exact hc2 | (simp; exact hc2))).mono ?_; rintro e w' ⟨rfl, rfl⟩) | (go_at_call 68; refine (bits_is _ 8 _ rfl).mono ?_; rintro e w' ⟨rfl, rfl⟩))
  refine leaves_cons (f := 72) (args := #[.pointer (some ⟨b, 0, none⟩), .pointer (some ⟨w.heap.size, 0, none⟩)]) (by simp) (by simp [go_sem]) ?_
  refine (fail_d b w.heap.size 0 5 .returning _ (by rw [cell_of (heap_a h.blk)]; rfl) (by rw [cell_of (heap_alloc_new w _)]; rfl) (free_of (heap_a h.blk))).mono ?_
  rintro e u' w'' ⟨rfl, rfl, rfl⟩
  refine ⟨_, results_tmp rfl _ _ _, rfl, ?_⟩
  rw [if_pos rfl]
  exact ⟨(h.alloc _).setBad 5, ((Keep.refl _ _).alloc _).setCell _ _ (fun _ => .inl rfl), fun _ h => .inl h⟩
set_option maxRecDepth 100000 in
theorem num_big2 (w : World) (b : Nat) (bs : List UInt8) (n : Int) (sv : Value) (h : IsW w b bs 0 sv) (hn0 : 0 ≤ n) (hn : 65536 ≤ n) :
    Calls Try.prog 46 #[.pointer (some ⟨b, 0, none⟩), .int .i64 n, .int .i64 2] w fun e w' => e = .returned (.pointer (some ⟨b, 0, none⟩)) ∧ IsW w' b bs 5 sv ∧ After w w' b sv sv := by
  have hc0 : w.cell? ⟨b, 0, none⟩ = some sv := by rw [cell_of h.blk]; rfl
  have hc1 : w.cell? ⟨b, 1, none⟩ = some (.int .i64 0) := by rw [cell_of h.blk]; rfl
  have hc2 : w.cell? ⟨b, 2, none⟩ = some (.bool true) := by rw [cell_of h.blk]; rfl
  have hbl : b < w.heap.size := lt_of_block h.blk
  have hne : ¬ b = w.heap.size := by omega
  have hne2 : ¬ w.heap.size = b := by omega
  have hd : (n / 65536 != 0) = true := by simp; omega
  go_enter_defers Try.func46, Try.ntmps46
  go_wp2_with (first | (go_at_call 71; refine (wnone _ _ _ (by first | exact hc2 | (simp; exact hc2))).mono ?_; rintro e w' ⟨rfl, rfl⟩) | (go_at_call 68; refine (bits_is _ 16 _ rfl).mono ?_; rintro e w' ⟨rfl, rfl⟩))
  refine leaves_cons (f := 72) (args := #[.pointer (some ⟨b, 0, none⟩), .pointer (some ⟨w.heap.size, 0, none⟩)]) (by simp) (by simp [go_sem]) ?_
  refine (fail_d b w.heap.size 0 5 .returning _ (by rw [cell_of (heap_a h.blk)]; rfl) (by rw [cell_of (heap_alloc_new w _)]; rfl) (free_of (heap_a h.blk))).mono ?_
  rintro e u' w'' ⟨rfl, rfl, rfl⟩
  refine ⟨_, results_tmp rfl _ _ _, rfl, ?_⟩
  rw [if_pos rfl]
  exact ⟨(h.alloc _).setBad 5, ((Keep.refl _ _).alloc _).setCell _ _ (fun _ => .inl rfl), fun _ h => .inl h⟩
set_option maxRecDepth 100000 in
theorem num_big4 (w : World) (b : Nat) (bs : List UInt8) (n : Int) (sv : Value) (h : IsW w b bs 0 sv) (hn0 : 0 ≤ n) (hn : 4294967296 ≤ n) :
    Calls Try.prog 46 #[.pointer (some ⟨b, 0, none⟩), .int .i64 n, .int .i64 4] w fun e w' => e = .returned (.pointer (some ⟨b, 0, none⟩)) ∧ IsW w' b bs 5 sv ∧ After w w' b sv sv := by
  have hc0 : w.cell? ⟨b, 0, none⟩ = some sv := by rw [cell_of h.blk]; rfl
  have hc1 : w.cell? ⟨b, 1, none⟩ = some (.int .i64 0) := by rw [cell_of h.blk]; rfl
  have hc2 : w.cell? ⟨b, 2, none⟩ = some (.bool true) := by rw [cell_of h.blk]; rfl
  have hbl : b < w.heap.size := lt_of_block h.blk
  have hne : ¬ b = w.heap.size := by omega
  have hne2 : ¬ w.heap.size = b := by omega
  have hd : (n / 4294967296 != 0) = true := by simp; omega
  go_enter_defers Try.func46, Try.ntmps46
  go_wp2_with (first | (go_at_call 71; refine (wnone _ _ _ (by first | exact hc2 | (simp; exact hc2))).mono ?_; rintro e w' ⟨rfl, rfl⟩) | (go_at_call 68; refine (bits_is _ 32 _ rfl).mono ?_; rintro e w' ⟨rfl, rfl⟩))
  refine leaves_cons (f := 72) (args := #[.pointer (some ⟨b, 0, none⟩), .pointer (some ⟨w.heap.size, 0, none⟩)]) (by simp) (by simp [go_sem]) ?_
  refine (fail_d b w.heap.size 0 5 .returning _ (by rw [cell_of (heap_a h.blk)]; rfl) (by rw [cell_of (heap_alloc_new w _)]; rfl) (free_of (heap_a h.blk))).mono ?_
  rintro e u' w'' ⟨rfl, rfl, rfl⟩
  refine ⟨_, results_tmp rfl _ _ _, rfl, ?_⟩
  rw [if_pos rfl]
  exact ⟨(h.alloc _).setBad 5, ((Keep.refl _ _).alloc _).setCell _ _ (fun _ => .inl rfl), fun _ h => .inl h⟩

theorem num_any (w : World) (b : Nat) (bs : List UInt8) (bad n k : Int) (sv : Value) (h : IsW w b bs bad sv) (hlen : bs.length ≤ 1000000000000) :
    Calls Try.prog 46 #[.pointer (some ⟨b, 0, none⟩), .int .i64 n, .int .i64 k] w fun e w' => e = .returned (.pointer (some ⟨b, 0, none⟩)) ∧
      ∃ sv', IsW w' b (wnum (bs, bad) n k).1 (wnum (bs, bad) n k).2 sv' ∧ After w w' b sv sv' := by
  by_cases hb : bad = 0
  case neg =>
    refine (num_bad w b bs bad n k sv h hb).mono ?_
    rintro e w' ⟨rfl, rfl⟩
    exact ⟨rfl, sv, by simpa [wnum, hb] using h, After.refl _ _ _⟩
  subst hb
  by_cases hk : nbits k = 0
  · refine (num_arg w b bs n k sv h hk).mono ?_
    rintro e w' ⟨rfl, h1, h2⟩
    exact ⟨rfl, sv, by simpa [wnum, hk] using h1, h2⟩
  by_cases hn : n < 0
  · refine (num_neg w b bs n k sv h hk hn).mono ?_
    rintro e w' ⟨rfl, h1, h2⟩
    exact ⟨rfl, sv, by simpa [wnum, hk, hn] using h1, h2⟩
  have hk3 : k = 1 ∨ k = 2 ∨ k = 4 := by
    unfold nbits at hk
    by_cases h4 : k = 4
    · omega
    by_cases h2 : k = 2
    · omega
    by_cases h1 : k = 1
    · omega
    simp [h4, h2, h1] at hk
  rcases hk3 with rfl | rfl | rfl
  · by_cases hbig : 256 ≤ n
    · refine (num_big1 w b bs n sv h (by omega) hbig).mono ?_
      rintro e w' ⟨rfl, h1, h2⟩
      have e : wnum (bs, 0) n 1 = (bs, 5) := by
        simp only [wnum, ne_eq, not_true_eq_false, if_false, hk]
        rw [if_pos (.inr (by simpa [nbits] using hbig))]
      rw [e]; exact ⟨rfl, sv, h1, h2⟩
    · refine (num_ok1 w b bs n sv h (by omega) (by omega) hlen).mono ?_
      rintro e w' ⟨rfl, sv', h1, h2⟩
      have e : wnum (bs, 0) n 1 = (bs ++ be 1 n, 0) := by
        simp only [wnum, ne_eq, not_true_eq_false, if_false, hk]
        rw [if_neg (by rw [show nbits 1 = 8 from rfl]; simp; omega)]; rfl
      rw [e]; exact ⟨rfl, sv', h1, h2⟩
  · by_cases hbig : 65536 ≤ n
    · refine (num_big2 w b bs n sv h (by omega) hbig).mono ?_
      rintro e w' ⟨rfl, h1, h2⟩
      have e : wnum (bs, 0) n 2 = (bs, 5) := by
        simp only [wnum, ne_eq, not_true_eq_false, if_false, hk]
        rw [if_pos (.inr (by simpa [nbits] using hbig))]
      rw [e]; exact ⟨rfl, sv, h1, h2⟩
    · refine (num_ok2 w b bs n sv h (by omega) (by omega) hlen).mono ?_
      rintro e w' ⟨rfl, sv', h1, h2⟩
      have e : wnum (bs, 0) n 2 = (bs ++ be 2 n, 0) := by
        simp only [wnum, ne_eq, not_true_eq_false, if_false, hk]
        rw [if_neg (by rw [show nbits 2 = 16 from rfl]; simp; omega)]; rfl
      rw [e]; exact ⟨rfl, sv', h1, h2⟩
  · by_cases hbig : 4294967296 ≤ n
    · refine (num_big4 w b bs n sv h (by omega) hbig).mono ?_
      rintro e w' ⟨rfl, h1, h2⟩
      have e : wnum (bs, 0) n 4 = (bs, 5) := by
        simp only [wnum, ne_eq, not_true_eq_false, if_false, hk]
        rw [if_pos (.inr (by simpa [nbits] using hbig))]
      rw [e]; exact ⟨rfl, sv, h1, h2⟩
    · refine (num_ok4 w b bs n sv h (by omega) (by omega) hlen).mono ?_
      rintro e w' ⟨rfl, sv', h1, h2⟩
      have e : wnum (bs, 0) n 4 = (bs ++ be 4 n, 0) := by
        simp only [wnum, ne_eq, not_true_eq_false, if_false, hk]
        rw [if_neg (by rw [show nbits 4 = 32 from rfl]; simp; omega)]; rfl
      rw [e]; exact ⟨rfl, sv', h1, h2⟩
end Oct
end Go.Proofs.Ytmnmemeldjbifaa
