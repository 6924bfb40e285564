/-
  Contracts of the writer's and the reader's small functions. Contracts of the writer's methods, whatever the arguments. Contracts of New, Raw, Text, Done; of a writer that nobody made. The writer that a function has made: one bundle.
-/
import Derived.Test.YthllhjdaknmlbaaDoorBase
import Derived.Test.YthllhjdaknmlbaaDoorRows
import Derived.BigQuiet
import Derived.StillTailTactics
import Derived.ChangeAlike
import Derived.RegionTactic
import Derived.Defers
import Derived.Test.YthllhjdaknmlbaaDoorText
import Derived.Deep.AppendLies
import Derived.Lib.BufferRead
set_option linter.unusedVariables false
set_option linter.unusedSimpArgs false

namespace Go.Proofs.YthllhjdaknmlbaaDoor
open Go.RowKit
namespace Oct

set_option maxRecDepth 100000 in
theorem wnone_nil (w : World) : Calls Tryd.prog 68 #[.pointer none] w fun e w' => e = .returned (.bool true) ∧ w = w' := by
  go_enter Tryd.func68, Tryd.ntmps68
  go_wp2
  go_ret
  exact ⟨rfl, rfl⟩

set_option maxRecDepth 100000 in
theorem wnone (w : World) (b : Nat) (m : Bool) (h : w.cell? ⟨b, 2, none⟩ = some (.bool m)) : Calls Tryd.prog 68 #[.pointer (some ⟨b, 0, none⟩)] w fun e w' => e = .returned (.bool (!m)) ∧ w = w' := by
  go_enter Tryd.func68, Tryd.ntmps68
  go_wp2
  go_ret
  exact ⟨rfl, rfl⟩

/-- How many bits. -/
def nbits (k : Int) : Int := if k = 4 then 32 else if k = 2 then 16 else if k = 1 then 8 else 0

set_option maxRecDepth 100000 in
theorem bits_any (k : Int) (w : World) : Calls Tryd.prog 70 #[.int .i64 k] w fun e w' => e = .returned (.int .i64 (nbits k)) ∧ w = w' := by
  by_cases h4 : k = 4
  · subst h4
    go_enter Tryd.func70, Tryd.ntmps70
    go_wp2
    go_ret
    exact ⟨rfl, rfl⟩
  by_cases h2 : k = 2
  · subst h2
    go_enter Tryd.func70, Tryd.ntmps70
    go_wp2
    go_ret
    exact ⟨rfl, rfl⟩
  by_cases h1 : k = 1
  · subst h1
    go_enter Tryd.func70, Tryd.ntmps70
    go_wp2
    go_ret
    exact ⟨rfl, rfl⟩
  go_enter Tryd.func70, Tryd.ntmps70
  go_wp2
  go_ret
  exact ⟨by simp [nbits, h4, h2, h1], rfl⟩

theorem bits_is (k v : Int) (w : World) (h : nbits k = v) : Calls Tryd.prog 70 #[.int .i64 k] w fun e w' => e = .returned (.int .i64 v) ∧ w = w' := h ▸ bits_any k w

set_option maxRecDepth 100000 in
/-- 'fail', entered as a deferred call. -/
theorem fail_d (b be : Nat) (bad e0 : Int) (u : FrameMode) (w : World) (hc : w.cell? ⟨b, 1, none⟩ = some (.int .i64 bad)) (he : w.cell? ⟨be, 0, none⟩ = some (.int .i64 e0)) (hz : w.frozen? ⟨b, 1, none⟩ = false) :
    CallsD Tryd.prog 69 #[.pointer (some ⟨b, 0, none⟩), .pointer (some ⟨be, 0, none⟩)] u w fun e u' w' => u' = u ∧ (e = .returned (.tuple #[]) ∧ w' = if bad = 0 then w.setCell ⟨b, 1, none⟩ (.int .i64 e0) else w) := by
  by_cases h0 : bad = 0
  · subst h0
    go_enter_d Tryd.func69, Tryd.ntmps69
    go_wp2
    go_end0
    exact ⟨rfl, by simp⟩
  · have hb : (bad == 0) = false := by simpa using h0
    go_enter_d Tryd.func69, Tryd.ntmps69
    go_wp2
    go_end0
    exact ⟨rfl, by simp [h0]⟩
end Oct
end Go.Proofs.YthllhjdaknmlbaaDoor

namespace Go.Proofs.YthllhjdaknmlbaaDoor
open Go.RowKit
namespace Oct
theorem infoU8 : (Tryd.prog.info? 5).map (fun i => (i.zero, i.size, i.bytes)) = some (some (.int .u8 0), 1, 1) := by kernel_rfl
/-- A byte as a value. -/
def bv (c : UInt8) : Value := .int .u8 (c.toNat : Int)

/-- A writer at block b: what is written, the first error; sv: its slice. -/
structure IsW (w : World) (b : Nat) (bs : List UInt8) (bad : Int) (sv : Value) : Prop where
  blk : w.heap[b]? = some (.cells #[sv, .int .i64 bad, .bool true] 103 (0, 0))
  own : w.ownsRow 0 5 1 sv bs.length (bs.map bv)
  ne : sv.ownBlock ≠ some b

/-- The m lowest bytes of n, the highest first. -/
def be : Nat → Int → List UInt8
  | 0, _ => []
  | m + 1, n => be m (n / 256) ++ [UInt8.ofNat (n % 256).toNat]

theorem slU8 : SlT Tryd.prog 81 5 (.int .u8 0) 1 1 := SlT.mk' Tryd.underlying81 infoU8 rfl (by omega)

theorem byte_val (x : Int) : Value.int .u8 (IntKind.u8.wrap x) = bv (UInt8.ofNat (x % 256).toNat) := by
  have : (UInt8.ofNat (x % 256).toNat).toNat = (x % 256).toNat := by
    rw [UInt8.toNat_ofNat']; omega
  rw [bv, this, IntKind.wrap_u8']
  congr 1; omega

/-- One more byte at the writer's end. -/
theorem IsW.more {w w1 : World} {b L : Nat} {bs : List UInt8} {sv v' : Value} (h : IsW w b bs 0 sv) {o : Obj} (hL : L = bs.length) (c : List UInt8) (n : Nat) (hn : n = c.length)
    (ha : Appended (w.alloc o).drew w1 5 1 sv v' (L + n) (bs.map bv ++ c.map bv)) : IsW (w1.setCell ⟨b, 0, none⟩ v') b (bs ++ c) 0 v' := by
  have hb := lt_of_block h.blk
  have hne : v'.ownBlock ≠ some b := by
    rcases ha.at_ with e | e
    · rw [e]; exact h.ne
    · rw [e]; intro e2; simp at e2; omega
  have h1 : (w.alloc o).drew.heap[b]? = some (.cells #[sv, .int .i64 0, .bool true] 103 (0, 0)) := (Below.heap_alloc w o b hb).trans h.blk
  have h2 := ha.keep.get h1 h.ne
  refine ⟨?_, ?_, hne⟩
  · rw [block_set h2]; rfl
  · have := (Keep.setCell (Keep.refl (fun k => k = b) w1) ⟨b, 0, none⟩ v' (fun _ => rfl)).row ha.own (fun k hk e => hne (by rw [hk, e]))
    rw [List.map_append, List.length_append, ← hL, ← hn]; exact this

theorem IsW.alloc {w : World} {b : Nat} {bs : List UInt8} {bad : Int} {sv : Value} (h : IsW w b bs bad sv) (o : Obj) : IsW (w.alloc o) b bs bad sv :=
  ⟨(Below.heap_alloc w o b (lt_of_block h.blk)).trans h.blk, h.own.alloc o, h.ne⟩

/-- What 'Num' leaves of the blocks. -/
def After (w w' : World) (b : Nat) (sv sv' : Value) : Prop := Keep (fun k => k = b ∨ sv.ownBlock = some k) w w' ∧ (∀ k, sv'.ownBlock = some k → sv.ownBlock = some k ∨ w.heap.size ≤ k)

set_option maxRecDepth 100000 in
theorem num_ok1 (w : World) (b : Nat) (bs : List UInt8) (n : Int) (sv : Value) (h : IsW w b bs 0 sv) (hn : 0 ≤ n) (hn' : n < 256 ^ 1) (hlen : bs.length ≤ 1000000000000) :
    Calls Tryd.prog 39 #[.pointer (some ⟨b, 0, none⟩), .int .i64 n, .int .i64 1] w fun e w' => e = .returned (.pointer (some ⟨b, 0, none⟩)) ∧ ∃ sv', IsW w' b (bs ++ be 1 n) 0 sv' ∧ After w w' b sv sv' := by
  have hc0 : w.cell? ⟨b, 0, none⟩ = some sv := by rw [cell_of h.blk]; rfl
  have hc1 : w.cell? ⟨b, 1, none⟩ = some (.int .i64 0) := by rw [cell_of h.blk]; rfl
  have hc2 : w.cell? ⟨b, 2, none⟩ = some (.bool true) := by rw [cell_of h.blk]; rfl
  have hbl : b < w.heap.size := lt_of_block h.blk
  have hlt : n < 256 := by simpa using hn'
  have hdiv : (n / 256 != 0) = false := by simp; omega
  clear hn'
  go_enter_defers Tryd.func39, Tryd.ntmps39
  go_wp2_with (first | (go_at_call 68; refine (wnone _ _ _ hc2).mono ?_; rintro e w' ⟨rfl, rfl⟩) | (go_at_call 70; refine (bits_is _ 8 _ rfl).mono ?_; rintro e w' ⟨rfl, rfl⟩))
  go_loopw [8] (fun i wr => ∃ j : Nat, ∃ cs sv', j ≤ 1 ∧ i = .int .i64 (8 * j) ∧ cs = be (1 - j) (n / 256 ^ j) ∧ IsW wr b (bs ++ cs) 0 sv' ∧ wr.heap[w.heap.size]? = some (.cells #[.int .i64 0] 37 (0, 0)) ∧ sv'.ownBlock ≠ some w.heap.size ∧
      Keep (fun k => k = b ∨ sv.ownBlock = some k) w wr ∧ (∀ k, sv'.ownBlock = some k → sv.ownBlock = some k ∨ w.heap.size ≤ k)) (fun i _ => (intOf i).toNat)
  case atStart =>
    refine ⟨1, _, sv, by omega, rfl, rfl, ?_, ?_, ?_, ?_, ?_⟩
    · simp only [Nat.sub_self, be, List.append_nil]; exact h.alloc _
    · exact heap_alloc_new w _
    · intro e; have := (h.own.lt _ e).2; omega
    · exact (Keep.refl _ _).alloc _
    · intro k hk; exact .inl hk
  case round =>
    obtain ⟨j, cs, sv', hj, rfl, hcs, hW, hloc, hne, hkeep, hfr⟩ := hrel
    by_cases h0 : 0 < j
    · obtain rfl : j = 1 := by omega
      have hd0 : wr.cell? ⟨b, 0, none⟩ = some sv' := by rw [cell_of hW.blk]; rfl
      have hz : wr.frozen? ⟨b, 0, none⟩ = false := free_of hW.blk
      have hbl' : b < wr.heap.size := lt_of_block hW.blk
      have hown := hW.own
      have hneb := hW.ne
      have hll' : w.heap.size < wr.heap.size := lt_of_block hloc
      obtain ⟨L, hlz⟩ : ∃ L, L = (bs ++ cs).length := ⟨_, rfl⟩
      rw [← hlz] at hown
      have hL : L ≤ 1000000000009 := by rw [hlz, hcs]; simp [be]; omega
      have HW : Hid (IsW wr b (bs ++ cs) 0 sv') := hW
      have HL : Hid (L = (bs ++ cs).length) := hlz
      have Hcs : Hid (_ = _) := hcs
      have Hloc : Hid (_ = _) := hloc
      have Hne : Hid (_ ≠ _) := hne
      have Hkeep : Hid _ := hkeep
      have Hfr : Hid _ := hfr
      clear hW hc0 hc1 hc2 hloc hne hkeep hfr hcs hlz h
      go_wp2
      refine Txt.wp_region_text (fun _ => True) [0, 0, 0, 0, 1, 0, 0, 0, 0, 3, 4, 0, 0, 4] (by kernel_rfl) (by kernel_rfl) trivial ?_
      repeat (first
        | (refine Txt.tl_pure (v := ?_) (by rfl) ?_ ?_; rotate_left; (focus (intro _; go_simp; try with_reducible rfl)); simp only [Act.put, List.setIfInBounds_toArray, List.set_cons_zero, List.set_cons_succ])
        | (refine Txt.tl_skip (by rfl) trivial ?_; simp only [Act.put, List.setIfInBounds_toArray, List.set_cons_zero, List.set_cons_succ])
        | (refine Txt.tl_load (v := ?_) (by rfl) (by rfl) (by rfl) (by kernel_rfl) ?_ ?_; rotate_left; (focus (first | assumption | (go_simp; done) | (go_simp; with_reducible rfl))); simp only [Act.put, List.setIfInBounds_toArray, List.set_cons_zero, List.set_cons_succ])
        | (refine Txt.tl_alloc (by rfl) ?_; go_simp; refine ⟨by (first | exact Txt.Le.alloc_drew _ _ | exact Txt.Le.alloc _ _), ?_⟩))
      refine Txt.tl_loud (by rfl) ?_
      refine wp_app slU8 (by rfl) (by rfl) (xs := (bs ++ cs).map bv) (v := sv') (n := L) ((hown.alloc _).drew) [_] (by rfl) (by rfl) (news_new wr #[_] _ _) (by simp [Value.oneCell']) (by unfold maxLen; omega) (by omega) ?_
      intro v' w1 happ
      refine ⟨trivial, ?_⟩
      simp only [Act.put, List.setIfInBounds_toArray, List.set_cons_zero, List.set_cons_succ]
      rw [byte_val] at happ
      obtain ⟨va, vc, rfl⟩ := own_form happ.own
      have hW1 := HW.out.more HL.out [_] 1 rfl happ
      have hbk := happ.keep.get (heap_ad HW.out.blk) hneb
      have hd1 : w1.cell? ⟨b, 0, none⟩ = some sv' := by rw [cell_of hbk]; rfl
      have hz1 : w1.frozen? ⟨b, 0, none⟩ = false := free_of hbk
      clear hbk
      have HA : Hid _ := happ
      have HW1 : Hid _ := hW1
      clear happ hW1
      repeat (first
        | (refine Txt.tl_pure (v := ?_) (by rfl) ?_ ?_; rotate_left; (focus (intro _; go_simp; try with_reducible rfl)); simp only [Act.put, List.setIfInBounds_toArray, List.set_cons_zero, List.set_cons_succ])
        | (refine Txt.tl_skip (by rfl) trivial ?_; simp only [Act.put, List.setIfInBounds_toArray, List.set_cons_zero, List.set_cons_succ])
        | (refine Txt.tl_load (v := ?_) (by rfl) (by rfl) (by rfl) (by kernel_rfl) ?_ ?_; rotate_left; (focus (first | assumption | (go_simp; done) | (go_simp; with_reducible rfl))); simp only [Act.put, List.setIfInBounds_toArray, List.set_cons_zero, List.set_cons_succ])
        | (refine Txt.tl_alloc (by rfl) ?_; go_simp; refine ⟨by (first | exact Txt.Le.alloc_drew _ _ | exact Txt.Le.alloc _ _), ?_⟩))
      refine Txt.tl_loud (by rfl) ?_
      go_simp
      refine Txt.tl_nil ?_
      have e : bs ++ cs ++ [UInt8.ofNat (n % 256).toNat] = bs ++ be (1 - 0) (n / 256 ^ 0) := by
        rw [Hcs.out, List.append_assoc]
        simp [be, Int.ediv_ediv]
      have hW2 := HW1.out
      rw [e] at hW2
      have HW2 : Hid _ := hW2
      clear HW1 hW2 e
      go_roundw
      case rel =>
        (repeat apply Exists.intro)
        refine ⟨?_, rfl⟩
        have hk1 : Keep (fun k => k = b ∨ sv.ownBlock = some k) w (w1.setCell ⟨b, 0, none⟩ (.slice va (L + 1) vc)) := by
          refine Keep.setCell ?_ _ _ (fun _ => .inl rfl)
          refine (Hkeep.out.alloc _).drew.trans' HA.out.keep (fun _ _ h => h) (fun k hk e => ?_)
          rcases Hfr.out k e with h | h
          · exact .inr h
          · omega
        refine ⟨0, _, _, by omega, rfl, rfl, HW2.out, ?_, ?_, hk1, ?_⟩
        · exact heap_s (HA.out.keep.get (heap_ad Hloc.out) Hne.out) (by simp; omega)
        · rcases HA.out.at_ with e | e
          · rw [e]; exact Hne.out
          · rw [e]; intro e2; simp at e2; omega
        · intro k hk
          rcases HA.out.at_ with e | e
          · exact Hfr.out k (by rw [← e]; exact hk)
          · rw [e] at hk; simp at hk; omega
      case measure => simp [intOf]
    ·
      obtain rfl : j = 0 := by omega
      have hd1 : wr.cell? ⟨b, 1, none⟩ = some (.int .i64 0) := by rw [cell_of hW.blk]; rfl
      go_wp2
      refine leaves_cons (f := 69) (args := #[.pointer (some ⟨b, 0, none⟩), .pointer (some ⟨w.heap.size, 0, none⟩)]) (by simp) (by simp [go_sem]) ?_
      refine (fail_d b w.heap.size 0 0 .returning _ hd1 (by rw [cell_of hloc]; rfl) (free_of hW.blk)).mono ?_
      rintro e u' w'' ⟨rfl, rfl, rfl⟩
      refine ⟨_, results_tmp rfl _ _ _, rfl, sv', ?_, ?_, hfr⟩
      · rw [if_pos rfl]
        have e : bs ++ cs = bs ++ be 1 n := by rw [hcs]; simp
        rw [← e]
        exact ⟨by rw [block_set hW.blk]; rfl, (Keep.setCell (Keep.refl (fun k => k = b) wr) ⟨b, 1, none⟩ _ (fun _ => rfl)).row hW.own (fun k hk e => hW.ne (by rw [hk, e])), hW.ne⟩
      · rw [if_pos rfl]
        exact hkeep.setCell _ _ (fun _ => .inl rfl)
set_option maxRecDepth 100000 in
theorem num_ok2 (w : World) (b : Nat) (bs : List UInt8) (n : Int) (sv : Value) (h : IsW w b bs 0 sv) (hn : 0 ≤ n) (hn' : n < 256 ^ 2) (hlen : bs.length ≤ 1000000000000) :
    Calls Tryd.prog 39 #[.pointer (some ⟨b, 0, none⟩), .int .i64 n, .int .i64 2] w fun e w' => e = .returned (.pointer (some ⟨b, 0, none⟩)) ∧ ∃ sv', IsW w' b (bs ++ be 2 n) 0 sv' ∧ After w w' b sv sv' := by
  have hc0 : w.cell? ⟨b, 0, none⟩ = some sv := by rw [cell_of h.blk]; rfl
  have hc1 : w.cell? ⟨b, 1, none⟩ = some (.int .i64 0) := by rw [cell_of h.blk]; rfl
  have hc2 : w.cell? ⟨b, 2, none⟩ = some (.bool true) := by rw [cell_of h.blk]; rfl
  have hbl : b < w.heap.size := lt_of_block h.blk
  have hlt : n < 65536 := by simpa using hn'
  have hdiv : (n / 65536 != 0) = false := by simp; omega
  clear hn'
  go_enter_defers Tryd.func39, Tryd.ntmps39
  go_wp2_with (first | (go_at_call 68; refine (wnone _ _ _ hc2).mono ?_; rintro e w' ⟨rfl, rfl⟩) | (go_at_call 70; refine (bits_is _ 16 _ rfl).mono ?_; rintro e w' ⟨rfl, rfl⟩))
  go_loopw [8] (fun i wr => ∃ j : Nat, ∃ cs sv', j ≤ 2 ∧ i = .int .i64 (8 * j) ∧ cs = be (2 - j) (n / 256 ^ j) ∧ IsW wr b (bs ++ cs) 0 sv' ∧ wr.heap[w.heap.size]? = some (.cells #[.int .i64 0] 37 (0, 0)) ∧ sv'.ownBlock ≠ some w.heap.size ∧
      Keep (fun k => k = b ∨ sv.ownBlock = some k) w wr ∧ (∀ k, sv'.ownBlock = some k → sv.ownBlock = some k ∨ w.heap.size ≤ k)) (fun i _ => (intOf i).toNat)
  case atStart =>
    refine ⟨2, _, sv, by omega, rfl, rfl, ?_, ?_, ?_, ?_, ?_⟩
    · simp only [Nat.sub_self, be, List.append_nil]; exact h.alloc _
    · exact heap_alloc_new w _
    · intro e; have := (h.own.lt _ e).2; omega
    · exact (Keep.refl _ _).alloc _
    · intro k hk; exact .inl hk
  case round =>
    obtain ⟨j, cs, sv', hj, rfl, hcs, hW, hloc, hne, hkeep, hfr⟩ := hrel
    by_cases h0 : 0 < j
    · have : j = 1 ∨ j = 2 := by omega
      rcases this with rfl | rfl
      ·
        have hd0 : wr.cell? ⟨b, 0, none⟩ = some sv' := by rw [cell_of hW.blk]; rfl
        have hz : wr.frozen? ⟨b, 0, none⟩ = false := free_of hW.blk
        have hbl' : b < wr.heap.size := lt_of_block hW.blk
        have hown := hW.own
        have hneb := hW.ne
        have hll' : w.heap.size < wr.heap.size := lt_of_block hloc
        obtain ⟨L, hlz⟩ : ∃ L, L = (bs ++ cs).length := ⟨_, rfl⟩
        rw [← hlz] at hown
        have hL : L ≤ 1000000000009 := by rw [hlz, hcs]; simp [be]; omega
        have HW : Hid (IsW wr b (bs ++ cs) 0 sv') := hW
        have HL : Hid (L = (bs ++ cs).length) := hlz
        have Hcs : Hid (_ = _) := hcs
        have Hloc : Hid (_ = _) := hloc
        have Hne : Hid (_ ≠ _) := hne
        have Hkeep : Hid _ := hkeep
        have Hfr : Hid _ := hfr
        clear hW hc0 hc1 hc2 hloc hne hkeep hfr hcs hlz h
        go_wp2
        refine Txt.wp_region_text (fun _ => True) [0, 0, 0, 0, 1, 0, 0, 0, 0, 3, 4, 0, 0, 4] (by kernel_rfl) (by kernel_rfl) trivial ?_
        repeat (first
          | (refine Txt.tl_pure (v := ?_) (by rfl) ?_ ?_; rotate_left; (focus (intro _; go_simp; try with_reducible rfl)); simp only [Act.put, List.setIfInBounds_toArray, List.set_cons_zero, List.set_cons_succ])
          | (refine Txt.tl_skip (by rfl) trivial ?_; simp only [Act.put, List.setIfInBounds_toArray, List.set_cons_zero, List.set_cons_succ])
          | (refine Txt.tl_load (v := ?_) (by rfl) (by rfl) (by rfl) (by kernel_rfl) ?_ ?_; rotate_left; (focus (first | assumption | (go_simp; done) | (go_simp; with_reducible rfl))); simp only [Act.put, List.setIfInBounds_toArray, List.set_cons_zero, List.set_cons_succ])
          | (refine Txt.tl_alloc (by rfl) ?_; go_simp; refine ⟨by (first | exact Txt.Le.alloc_drew _ _ | exact Txt.Le.alloc _ _), ?_⟩))
        refine Txt.tl_loud (by rfl) ?_
        refine wp_app slU8 (by rfl) (by rfl) (xs := (bs ++ cs).map bv) (v := sv') (n := L) ((hown.alloc _).drew) [_] (by rfl) (by rfl) (news_new wr #[_] _ _) (by simp [Value.oneCell']) (by unfold maxLen; omega) (by omega) ?_
        intro v' w1 happ
        refine ⟨trivial, ?_⟩
        simp only [Act.put, List.setIfInBounds_toArray, List.set_cons_zero, List.set_cons_succ]
        rw [byte_val] at happ
        obtain ⟨va, vc, rfl⟩ := own_form happ.own
        have hW1 := HW.out.more HL.out [_] 1 rfl happ
        have hbk := happ.keep.get (heap_ad HW.out.blk) hneb
        have hd1 : w1.cell? ⟨b, 0, none⟩ = some sv' := by rw [cell_of hbk]; rfl
        have hz1 : w1.frozen? ⟨b, 0, none⟩ = false := free_of hbk
        clear hbk
        have HA : Hid _ := happ
        have HW1 : Hid _ := hW1
        clear happ hW1
        repeat (first
          | (refine Txt.tl_pure (v := ?_) (by rfl) ?_ ?_; rotate_left; (focus (intro _; go_simp; try with_reducible rfl)); simp only [Act.put, List.setIfInBounds_toArray, List.set_cons_zero, List.set_cons_succ])
          | (refine Txt.tl_skip (by rfl) trivial ?_; simp only [Act.put, List.setIfInBounds_toArray, List.set_cons_zero, List.set_cons_succ])
          | (refine Txt.tl_load (v := ?_) (by rfl) (by rfl) (by rfl) (by kernel_rfl) ?_ ?_; rotate_left; (focus (first | assumption | (go_simp; done) | (go_simp; with_reducible rfl))); simp only [Act.put, List.setIfInBounds_toArray, List.set_cons_zero, List.set_cons_succ])
          | (refine Txt.tl_alloc (by rfl) ?_; go_simp; refine ⟨by (first | exact Txt.Le.alloc_drew _ _ | exact Txt.Le.alloc _ _), ?_⟩))
        refine Txt.tl_loud (by rfl) ?_
        go_simp
        refine Txt.tl_nil ?_
        have e : bs ++ cs ++ [UInt8.ofNat (n % 256).toNat] = bs ++ be (2 - 0) (n / 256 ^ 0) := by
          rw [Hcs.out, List.append_assoc]
          simp [be, Int.ediv_ediv]
        have hW2 := HW1.out
        rw [e] at hW2
        have HW2 : Hid _ := hW2
        clear HW1 hW2 e
        go_roundw
        case rel =>
          (repeat apply Exists.intro)
          refine ⟨?_, rfl⟩
          have hk1 : Keep (fun k => k = b ∨ sv.ownBlock = some k) w (w1.setCell ⟨b, 0, none⟩ (.slice va (L + 1) vc)) := by
            refine Keep.setCell ?_ _ _ (fun _ => .inl rfl)
            refine (Hkeep.out.alloc _).drew.trans' HA.out.keep (fun _ _ h => h) (fun k hk e => ?_)
            rcases Hfr.out k e with h | h
            · exact .inr h
            · omega
          refine ⟨0, _, _, by omega, rfl, rfl, HW2.out, ?_, ?_, hk1, ?_⟩
          · exact heap_s (HA.out.keep.get (heap_ad Hloc.out) Hne.out) (by simp; omega)
          · rcases HA.out.at_ with e | e
            · rw [e]; exact Hne.out
            · rw [e]; intro e2; simp at e2; omega
          · intro k hk
            rcases HA.out.at_ with e | e
            · exact Hfr.out k (by rw [← e]; exact hk)
            · rw [e] at hk; simp at hk; omega
        case measure => simp [intOf]
      ·
        have hd0 : wr.cell? ⟨b, 0, none⟩ = some sv' := by rw [cell_of hW.blk]; rfl
        have hz : wr.frozen? ⟨b, 0, none⟩ = false := free_of hW.blk
        have hbl' : b < wr.heap.size := lt_of_block hW.blk
        have hown := hW.own
        have hneb := hW.ne
        have hll' : w.heap.size < wr.heap.size := lt_of_block hloc
        obtain ⟨L, hlz⟩ : ∃ L, L = (bs ++ cs).length := ⟨_, rfl⟩
        rw [← hlz] at hown
        have hL : L ≤ 1000000000009 := by rw [hlz, hcs]; simp [be]; omega
        have HW : Hid (IsW wr b (bs ++ cs) 0 sv') := hW
        have HL : Hid (L = (bs ++ cs).length) := hlz
        have Hcs : Hid (_ = _) := hcs
        have Hloc : Hid (_ = _) := hloc
        have Hne : Hid (_ ≠ _) := hne
        have Hkeep : Hid _ := hkeep
        have Hfr : Hid _ := hfr
        clear hW hc0 hc1 hc2 hloc hne hkeep hfr hcs hlz h
        go_wp2
        refine Txt.wp_region_text (fun _ => True) [0, 0, 0, 0, 1, 0, 0, 0, 0, 3, 4, 0, 0, 4] (by kernel_rfl) (by kernel_rfl) trivial ?_
        repeat (first
          | (refine Txt.tl_pure (v := ?_) (by rfl) ?_ ?_; rotate_left; (focus (intro _; go_simp; try with_reducible rfl)); simp only [Act.put, List.setIfInBounds_toArray, List.set_cons_zero, List.set_cons_succ])
          | (refine Txt.tl_skip (by rfl) trivial ?_; simp only [Act.put, List.setIfInBounds_toArray, List.set_cons_zero, List.set_cons_succ])
          | (refine Txt.tl_load (v := ?_) (by rfl) (by rfl) (by rfl) (by kernel_rfl) ?_ ?_; rotate_left; (focus (first | assumption | (go_simp; done) | (go_simp; with_reducible rfl))); simp only [Act.put, List.setIfInBounds_toArray, List.set_cons_zero, List.set_cons_succ])
          | (refine Txt.tl_alloc (by rfl) ?_; go_simp; refine ⟨by (first | exact Txt.Le.alloc_drew _ _ | exact Txt.Le.alloc _ _), ?_⟩))
        refine Txt.tl_loud (by rfl) ?_
        refine wp_app slU8 (by rfl) (by rfl) (xs := (bs ++ cs).map bv) (v := sv') (n := L) ((hown.alloc _).drew) [_] (by rfl) (by rfl) (news_new wr #[_] _ _) (by simp [Value.oneCell']) (by unfold maxLen; omega) (by omega) ?_
        intro v' w1 happ
        refine ⟨trivial, ?_⟩
        simp only [Act.put, List.setIfInBounds_toArray, List.set_cons_zero, List.set_cons_succ]
        rw [byte_val] at happ
        obtain ⟨va, vc, rfl⟩ := own_form happ.own
        have hW1 := HW.out.more HL.out [_] 1 rfl happ
        have hbk := happ.keep.get (heap_ad HW.out.blk) hneb
        have hd1 : w1.cell? ⟨b, 0, none⟩ = some sv' := by rw [cell_of hbk]; rfl
        have hz1 : w1.frozen? ⟨b, 0, none⟩ = false := free_of hbk
        clear hbk
        have HA : Hid _ := happ
        have HW1 : Hid _ := hW1
        clear happ hW1
        repeat (first
          | (refine Txt.tl_pure (v := ?_) (by rfl) ?_ ?_; rotate_left; (focus (intro _; go_simp; try with_reducible rfl)); simp only [Act.put, List.setIfInBounds_toArray, List.set_cons_zero, List.set_cons_succ])
          | (refine Txt.tl_skip (by rfl) trivial ?_; simp only [Act.put, List.setIfInBounds_toArray, List.set_cons_zero, List.set_cons_succ])
          | (refine Txt.tl_load (v := ?_) (by rfl) (by rfl) (by rfl) (by kernel_rfl) ?_ ?_; rotate_left; (focus (first | assumption | (go_simp; done) | (go_simp; with_reducible rfl))); simp only [Act.put, List.setIfInBounds_toArray, List.set_cons_zero, List.set_cons_succ])
          | (refine Txt.tl_alloc (by rfl) ?_; go_simp; refine ⟨by (first | exact Txt.Le.alloc_drew _ _ | exact Txt.Le.alloc _ _), ?_⟩))
        refine Txt.tl_loud (by rfl) ?_
        go_simp
        refine Txt.tl_nil ?_
        have e : bs ++ cs ++ [UInt8.ofNat ((n / 256) % 256).toNat] = bs ++ be (2 - 1) (n / 256 ^ 1) := by
          rw [Hcs.out, List.append_assoc]
          simp [be, Int.ediv_ediv]
        have hW2 := HW1.out
        rw [e] at hW2
        have HW2 : Hid _ := hW2
        clear HW1 hW2 e
        go_roundw
        case rel =>
          (repeat apply Exists.intro)
          refine ⟨?_, rfl⟩
          have hk1 : Keep (fun k => k = b ∨ sv.ownBlock = some k) w (w1.setCell ⟨b, 0, none⟩ (.slice va (L + 1) vc)) := by
            refine Keep.setCell ?_ _ _ (fun _ => .inl rfl)
            refine (Hkeep.out.alloc _).drew.trans' HA.out.keep (fun _ _ h => h) (fun k hk e => ?_)
            rcases Hfr.out k e with h | h
            · exact .inr h
            · omega
          refine ⟨1, _, _, by omega, rfl, rfl, HW2.out, ?_, ?_, hk1, ?_⟩
          · exact heap_s (HA.out.keep.get (heap_ad Hloc.out) Hne.out) (by simp; omega)
          · rcases HA.out.at_ with e | e
            · rw [e]; exact Hne.out
            · rw [e]; intro e2; simp at e2; omega
          · intro k hk
            rcases HA.out.at_ with e | e
            · exact Hfr.out k (by rw [← e]; exact hk)
            · rw [e] at hk; simp at hk; omega
        case measure => simp [intOf]
    ·
      obtain rfl : j = 0 := by omega
      have hd1 : wr.cell? ⟨b, 1, none⟩ = some (.int .i64 0) := by rw [cell_of hW.blk]; rfl
      go_wp2
      refine leaves_cons (f := 69) (args := #[.pointer (some ⟨b, 0, none⟩), .pointer (some ⟨w.heap.size, 0, none⟩)]) (by simp) (by simp [go_sem]) ?_
      refine (fail_d b w.heap.size 0 0 .returning _ hd1 (by rw [cell_of hloc]; rfl) (free_of hW.blk)).mono ?_
      rintro e u' w'' ⟨rfl, rfl, rfl⟩
      refine ⟨_, results_tmp rfl _ _ _, rfl, sv', ?_, ?_, hfr⟩
      · rw [if_pos rfl]
        have e : bs ++ cs = bs ++ be 2 n := by rw [hcs]; simp
        rw [← e]
        exact ⟨by rw [block_set hW.blk]; rfl, (Keep.setCell (Keep.refl (fun k => k = b) wr) ⟨b, 1, none⟩ _ (fun _ => rfl)).row hW.own (fun k hk e => hW.ne (by rw [hk, e])), hW.ne⟩
      · rw [if_pos rfl]
        exact hkeep.setCell _ _ (fun _ => .inl rfl)
set_option maxRecDepth 100000 in
set_option maxHeartbeats 4000000 in
theorem num_ok4 (w : World) (b : Nat) (bs : List UInt8) (n : Int) (sv : Value) (h : IsW w b bs 0 sv) (hn : 0 ≤ n) (hn' : n < 256 ^ 4) (hlen : bs.length ≤ 1000000000000) :
    Calls Tryd.prog 39 #[.pointer (some ⟨b, 0, none⟩), .int .i64 n, .int .i64 4] w fun e w' => e = .returned (.pointer (some ⟨b, 0, none⟩)) ∧ ∃ sv', IsW w' b (bs ++ be 4 n) 0 sv' ∧ After w w' b sv sv' := by
  have hc0 : w.cell? ⟨b, 0, none⟩ = some sv := by rw [cell_of h.blk]; rfl
  have hc1 : w.cell? ⟨b, 1, none⟩ = some (.int .i64 0) := by rw [cell_of h.blk]; rfl
  have hc2 : w.cell? ⟨b, 2, none⟩ = some (.bool true) := by rw [cell_of h.blk]; rfl
  have hbl : b < w.heap.size := lt_of_block h.blk
  have hlt : n < 4294967296 := by simpa using hn'
  have hdiv : (n / 4294967296 != 0) = false := by simp; omega
  clear hn'
  go_enter_defers Tryd.func39, Tryd.ntmps39
  go_wp2_with (first | (go_at_call 68; refine (wnone _ _ _ hc2).mono ?_; rintro e w' ⟨rfl, rfl⟩) | (go_at_call 70; refine (bits_is _ 32 _ rfl).mono ?_; rintro e w' ⟨rfl, rfl⟩))
  go_loopw [8] (fun i wr => ∃ j : Nat, ∃ cs sv', j ≤ 4 ∧ i = .int .i64 (8 * j) ∧ cs = be (4 - j) (n / 256 ^ j) ∧ IsW wr b (bs ++ cs) 0 sv' ∧ wr.heap[w.heap.size]? = some (.cells #[.int .i64 0] 37 (0, 0)) ∧ sv'.ownBlock ≠ some w.heap.size ∧
      Keep (fun k => k = b ∨ sv.ownBlock = some k) w wr ∧ (∀ k, sv'.ownBlock = some k → sv.ownBlock = some k ∨ w.heap.size ≤ k)) (fun i _ => (intOf i).toNat)
  case atStart =>
    refine ⟨4, _, sv, by omega, rfl, rfl, ?_, ?_, ?_, ?_, ?_⟩
    · simp only [Nat.sub_self, be, List.append_nil]; exact h.alloc _
    · exact heap_alloc_new w _
    · intro e; have := (h.own.lt _ e).2; omega
    · exact (Keep.refl _ _).alloc _
    · intro k hk; exact .inl hk
  case round =>
    obtain ⟨j, cs, sv', hj, rfl, hcs, hW, hloc, hne, hkeep, hfr⟩ := hrel
    by_cases h0 : 0 < j
    · have : j = 1 ∨ j = 2 ∨ j = 3 ∨ j = 4 := by omega
      rcases this with rfl | rfl | rfl | rfl
      ·
        have hd0 : wr.cell? ⟨b, 0, none⟩ = some sv' := by rw [cell_of hW.blk]; rfl
        have hz : wr.frozen? ⟨b, 0, none⟩ = false := free_of hW.blk
        have hbl' : b < wr.heap.size := lt_of_block hW.blk
        have hown := hW.own
        have hneb := hW.ne
        have hll' : w.heap.size < wr.heap.size := lt_of_block hloc
        obtain ⟨L, hlz⟩ : ∃ L, L = (bs ++ cs).length := ⟨_, rfl⟩
        rw [← hlz] at hown
        have hL : L ≤ 1000000000009 := by rw [hlz, hcs]; simp [be]; omega
        have HW : Hid (IsW wr b (bs ++ cs) 0 sv') := hW
        have HL : Hid (L = (bs ++ cs).length) := hlz
        have Hcs : Hid (_ = _) := hcs
        have Hloc : Hid (_ = _) := hloc
        have Hne : Hid (_ ≠ _) := hne
        have Hkeep : Hid _ := hkeep
        have Hfr : Hid _ := hfr
        clear hW hc0 hc1 hc2 hloc hne hkeep hfr hcs hlz h
        go_wp2
        refine Txt.wp_region_text (fun _ => True) [0, 0, 0, 0, 1, 0, 0, 0, 0, 3, 4, 0, 0, 4] (by kernel_rfl) (by kernel_rfl) trivial ?_
        repeat (first
          | (refine Txt.tl_pure (v := ?_) (by rfl) ?_ ?_; rotate_left; (focus (intro _; go_simp; try with_reducible rfl)); simp only [Act.put, List.setIfInBounds_toArray, List.set_cons_zero, List.set_cons_succ])
          | (refine Txt.tl_skip (by rfl) trivial ?_; simp only [Act.put, List.setIfInBounds_toArray, List.set_cons_zero, List.set_cons_succ])
          | (refine Txt.tl_load (v := ?_) (by rfl) (by rfl) (by rfl) (by kernel_rfl) ?_ ?_; rotate_left; (focus (first | assumption | (go_simp; done) | (go_simp; with_reducible rfl))); simp only [Act.put, List.setIfInBounds_toArray, List.set_cons_zero, List.set_cons_succ])
          | (refine Txt.tl_alloc (by rfl) ?_; go_simp; refine ⟨by (first | exact Txt.Le.alloc_drew _ _ | exact Txt.Le.alloc _ _), ?_⟩))
        refine Txt.tl_loud (by rfl) ?_
        refine wp_app slU8 (by rfl) (by rfl) (xs := (bs ++ cs).map bv) (v := sv') (n := L) ((hown.alloc _).drew) [_] (by rfl) (by rfl) (news_new wr #[_] _ _) (by simp [Value.oneCell']) (by unfold maxLen; omega) (by omega) ?_
        intro v' w1 happ
        refine ⟨trivial, ?_⟩
        simp only [Act.put, List.setIfInBounds_toArray, List.set_cons_zero, List.set_cons_succ]
        rw [byte_val] at happ
        obtain ⟨va, vc, rfl⟩ := own_form happ.own
        have hW1 := HW.out.more HL.out [_] 1 rfl happ
        have hbk := happ.keep.get (heap_ad HW.out.blk) hneb
        have hd1 : w1.cell? ⟨b, 0, none⟩ = some sv' := by rw [cell_of hbk]; rfl
        have hz1 : w1.frozen? ⟨b, 0, none⟩ = false := free_of hbk
        clear hbk
        have HA : Hid _ := happ
        have HW1 : Hid _ := hW1
        clear happ hW1
        repeat (first
          | (refine Txt.tl_pure (v := ?_) (by rfl) ?_ ?_; rotate_left; (focus (intro _; go_simp; try with_reducible rfl)); simp only [Act.put, List.setIfInBounds_toArray, List.set_cons_zero, List.set_cons_succ])
          | (refine Txt.tl_skip (by rfl) trivial ?_; simp only [Act.put, List.setIfInBounds_toArray, List.set_cons_zero, List.set_cons_succ])
          | (refine Txt.tl_load (v := ?_) (by rfl) (by rfl) (by rfl) (by kernel_rfl) ?_ ?_; rotate_left; (focus (first | assumption | (go_simp; done) | (go_simp; with_reducible rfl))); simp only [Act.put, List.setIfInBounds_toArray, List.set_cons_zero, List.set_cons_succ])
          | (refine Txt.tl_alloc (by rfl) ?_; go_simp; refine ⟨by (first | exact Txt.Le.alloc_drew _ _ | exact Txt.Le.alloc _ _), ?_⟩))
        refine Txt.tl_loud (by rfl) ?_
        go_simp
        refine Txt.tl_nil ?_
        have e : bs ++ cs ++ [UInt8.ofNat (n % 256).toNat] = bs ++ be (4 - 0) (n / 256 ^ 0) := by
          rw [Hcs.out, List.append_assoc]
          simp [be, Int.ediv_ediv]
        have hW2 := HW1.out
        rw [e] at hW2
        have HW2 : Hid _ := hW2
        clear HW1 hW2 e
        go_roundw
        case rel =>
          (repeat apply Exists.intro)
          refine ⟨?_, rfl⟩
          have hk1 : Keep (fun k => k = b ∨ sv.ownBlock = some k) w (w1.setCell ⟨b, 0, none⟩ (.slice va (L + 1) vc)) := by
            refine Keep.setCell ?_ _ _ (fun _ => .inl rfl)
            refine (Hkeep.out.alloc _).drew.trans' HA.out.keep (fun _ _ h => h) (fun k hk e => ?_)
            rcases Hfr.out k e with h | h
            · exact .inr h
            · omega
          refine ⟨0, _, _, by omega, rfl, rfl, HW2.out, ?_, ?_, hk1, ?_⟩
          · exact heap_s (HA.out.keep.get (heap_ad Hloc.out) Hne.out) (by simp; omega)
          · rcases HA.out.at_ with e | e
            · rw [e]; exact Hne.out
            · rw [e]; intro e2; simp at e2; omega
          · intro k hk
            rcases HA.out.at_ with e | e
            · exact Hfr.out k (by rw [← e]; exact hk)
            · rw [e] at hk; simp at hk; omega
        case measure => simp [intOf]
      ·
        have hd0 : wr.cell? ⟨b, 0, none⟩ = some sv' := by rw [cell_of hW.blk]; rfl
        have hz : wr.frozen? ⟨b, 0, none⟩ = false := free_of hW.blk
        have hbl' : b < wr.heap.size := lt_of_block hW.blk
        have hown := hW.own
        have hneb := hW.ne
        have hll' : w.heap.size < wr.heap.size := lt_of_block hloc
        obtain ⟨L, hlz⟩ : ∃ L, L = (bs ++ cs).length := ⟨_, rfl⟩
        rw [← hlz] at hown
        have hL : L ≤ 1000000000009 := by rw [hlz, hcs]; simp [be]; omega
        have HW : Hid (IsW wr b (bs ++ cs) 0 sv') := hW
        have HL : Hid (L = (bs ++ cs).length) := hlz
        have Hcs : Hid (_ = _) := hcs
        have Hloc : Hid (_ = _) := hloc
        have Hne : Hid (_ ≠ _) := hne
        have Hkeep : Hid _ := hkeep
        have Hfr : Hid _ := hfr
        clear hW hc0 hc1 hc2 hloc hne hkeep hfr hcs hlz h
        go_wp2
        refine Txt.wp_region_text (fun _ => True) [0, 0, 0, 0, 1, 0, 0, 0, 0, 3, 4, 0, 0, 4] (by kernel_rfl) (by kernel_rfl) trivial ?_
        repeat (first
          | (refine Txt.tl_pure (v := ?_) (by rfl) ?_ ?_; rotate_left; (focus (intro _; go_simp; try with_reducible rfl)); simp only [Act.put, List.setIfInBounds_toArray, List.set_cons_zero, List.set_cons_succ])
          | (refine Txt.tl_skip (by rfl) trivial ?_; simp only [Act.put, List.setIfInBounds_toArray, List.set_cons_zero, List.set_cons_succ])
          | (refine Txt.tl_load (v := ?_) (by rfl) (by rfl) (by rfl) (by kernel_rfl) ?_ ?_; rotate_left; (focus (first | assumption | (go_simp; done) | (go_simp; with_reducible rfl))); simp only [Act.put, List.setIfInBounds_toArray, List.set_cons_zero, List.set_cons_succ])
          | (refine Txt.tl_alloc (by rfl) ?_; go_simp; refine ⟨by (first | exact Txt.Le.alloc_drew _ _ | exact Txt.Le.alloc _ _), ?_⟩))
        refine Txt.tl_loud (by rfl) ?_
        refine wp_app slU8 (by rfl) (by rfl) (xs := (bs ++ cs).map bv) (v := sv') (n := L) ((hown.alloc _).drew) [_] (by rfl) (by rfl) (news_new wr #[_] _ _) (by simp [Value.oneCell']) (by unfold maxLen; omega) (by omega) ?_
        intro v' w1 happ
        refine ⟨trivial, ?_⟩
        simp only [Act.put, List.setIfInBounds_toArray, List.set_cons_zero, List.set_cons_succ]
        rw [byte_val] at happ
        obtain ⟨va, vc, rfl⟩ := own_form happ.own
        have hW1 := HW.out.more HL.out [_] 1 rfl happ
        have hbk := happ.keep.get (heap_ad HW.out.blk) hneb
        have hd1 : w1.cell? ⟨b, 0, none⟩ = some sv' := by rw [cell_of hbk]; rfl
        have hz1 : w1.frozen? ⟨b, 0, none⟩ = false := free_of hbk
        clear hbk
        have HA : Hid _ := happ
        have HW1 : Hid _ := hW1
        clear happ hW1
        repeat (first
          | (refine Txt.tl_pure (v := ?_) (by rfl) ?_ ?_; rotate_left; (focus (intro _; go_simp; try with_reducible rfl)); simp only [Act.put, List.setIfInBounds_toArray, List.set_cons_zero, List.set_cons_succ])
          | (refine Txt.tl_skip (by rfl) trivial ?_; simp only [Act.put, List.setIfInBounds_toArray, List.set_cons_zero, List.set_cons_succ])
          | (refine Txt.tl_load (v := ?_) (by rfl) (by rfl) (by rfl) (by kernel_rfl) ?_ ?_; rotate_left; (focus (first | assumption | (go_simp; done) | (go_simp; with_reducible rfl))); simp only [Act.put, List.setIfInBounds_toArray, List.set_cons_zero, List.set_cons_succ])
          | (refine Txt.tl_alloc (by rfl) ?_; go_simp; refine ⟨by (first | exact Txt.Le.alloc_drew _ _ | exact Txt.Le.alloc _ _), ?_⟩))
        refine Txt.tl_loud (by rfl) ?_
        go_simp
        refine Txt.tl_nil ?_
        have e : bs ++ cs ++ [UInt8.ofNat ((n / 256) % 256).toNat] = bs ++ be (4 - 1) (n / 256 ^ 1) := by
          rw [Hcs.out, List.append_assoc]
          simp [be, Int.ediv_ediv]
        have hW2 := HW1.out
        rw [e] at hW2
        have HW2 : Hid _ := hW2
        clear HW1 hW2 e
        go_roundw
        case rel =>
          (repeat apply Exists.intro)
          refine ⟨?_, rfl⟩
          have hk1 : Keep (fun k => k = b ∨ sv.ownBlock = some k) w (w1.setCell ⟨b, 0, none⟩ (.slice va (L + 1) vc)) := by
            refine Keep.setCell ?_ _ _ (fun _ => .inl rfl)
            refine (Hkeep.out.alloc _).drew.trans' HA.out.keep (fun _ _ h => h) (fun k hk e => ?_)
            rcases Hfr.out k e with h | h
            · exact .inr h
            · omega
          refine ⟨1, _, _, by omega, rfl, rfl, HW2.out, ?_, ?_, hk1, ?_⟩
          · exact heap_s (HA.out.keep.get (heap_ad Hloc.out) Hne.out) (by simp; omega)
          · rcases HA.out.at_ with e | e
            · rw [e]; exact Hne.out
            · rw [e]; intro e2; simp at e2; omega
          · intro k hk
            rcases HA.out.at_ with e | e
            · exact Hfr.out k (by rw [← e]; exact hk)
            · rw [e] at hk; simp at hk; omega
        case measure => simp [intOf]
      ·
        have hd0 : wr.cell? ⟨b, 0, none⟩ = some sv' := by rw [cell_of hW.blk]; rfl
        have hz : wr.frozen? ⟨b, 0, none⟩ = false := free_of hW.blk
        have hbl' : b < wr.heap.size := lt_of_block hW.blk
        have hown := hW.own
        have hneb := hW.ne
        have hll' : w.heap.size < wr.heap.size := lt_of_block hloc
        obtain ⟨L, hlz⟩ : ∃ L, L = (bs ++ cs).length := ⟨_, rfl⟩
        rw [← hlz] at hown
        have hL : L ≤ 1000000000009 := by rw [hlz, hcs]; simp [be]; omega
        have HW : Hid (IsW wr b (bs ++ cs) 0 sv') := hW
        have HL : Hid (L = (bs ++ cs).length) := hlz
        have Hcs : Hid (_ = _) := hcs
        have Hloc : Hid (_ = _) := hloc
        have Hne : Hid (_ ≠ _) := hne
        have Hkeep : Hid _ := hkeep
        have Hfr : Hid _ := hfr
        clear hW hc0 hc1 hc2 hloc hne hkeep hfr hcs hlz h
        go_wp2
        refine Txt.wp_region_text (fun _ => True) [0, 0, 0, 0, 1, 0, 0, 0, 0, 3, 4, 0, 0, 4] (by kernel_rfl) (by kernel_rfl) trivial ?_
        repeat (first
          | (refine Txt.tl_pure (v := ?_) (by rfl) ?_ ?_; rotate_left; (focus (intro _; go_simp; try with_reducible rfl)); simp only [Act.put, List.setIfInBounds_toArray, List.set_cons_zero, List.set_cons_succ])
          | (refine Txt.tl_skip (by rfl) trivial ?_; simp only [Act.put, List.setIfInBounds_toArray, List.set_cons_zero, List.set_cons_succ])
          | (refine Txt.tl_load (v := ?_) (by rfl) (by rfl) (by rfl) (by kernel_rfl) ?_ ?_; rotate_left; (focus (first | assumption | (go_simp; done) | (go_simp; with_reducible rfl))); simp only [Act.put, List.setIfInBounds_toArray, List.set_cons_zero, List.set_cons_succ])
          | (refine Txt.tl_alloc (by rfl) ?_; go_simp; refine ⟨by (first | exact Txt.Le.alloc_drew _ _ | exact Txt.Le.alloc _ _), ?_⟩))
        refine Txt.tl_loud (by rfl) ?_
        refine wp_app slU8 (by rfl) (by rfl) (xs := (bs ++ cs).map bv) (v := sv') (n := L) ((hown.alloc _).drew) [_] (by rfl) (by rfl) (news_new wr #[_] _ _) (by simp [Value.oneCell']) (by unfold maxLen; omega) (by omega) ?_
        intro v' w1 happ
        refine ⟨trivial, ?_⟩
        simp only [Act.put, List.setIfInBounds_toArray, List.set_cons_zero, List.set_cons_succ]
        rw [byte_val] at happ
        obtain ⟨va, vc, rfl⟩ := own_form happ.own
        have hW1 := HW.out.more HL.out [_] 1 rfl happ
        have hbk := happ.keep.get (heap_ad HW.out.blk) hneb
        have hd1 : w1.cell? ⟨b, 0, none⟩ = some sv' := by rw [cell_of hbk]; rfl
        have hz1 : w1.frozen? ⟨b, 0, none⟩ = false := free_of hbk
        clear hbk
        have HA : Hid _ := happ
        have HW1 : Hid _ := hW1
        clear happ hW1
        repeat (first
          | (refine Txt.tl_pure (v := ?_) (by rfl) ?_ ?_; rotate_left; (focus (intro _; go_simp; try with_reducible rfl)); simp only [Act.put, List.setIfInBounds_toArray, List.set_cons_zero, List.set_cons_succ])
          | (refine Txt.tl_skip (by rfl) trivial ?_; simp only [Act.put, List.setIfInBounds_toArray, List.set_cons_zero, List.set_cons_succ])
          | (refine Txt.tl_load (v := ?_) (by rfl) (by rfl) (by rfl) (by kernel_rfl) ?_ ?_; rotate_left; (focus (first | assumption | (go_simp; done) | (go_simp; with_reducible rfl))); simp only [Act.put, List.setIfInBounds_toArray, List.set_cons_zero, List.set_cons_succ])
          | (refine Txt.tl_alloc (by rfl) ?_; go_simp; refine ⟨by (first | exact Txt.Le.alloc_drew _ _ | exact Txt.Le.alloc _ _), ?_⟩))
        refine Txt.tl_loud (by rfl) ?_
        go_simp
        refine Txt.tl_nil ?_
        have e : bs ++ cs ++ [UInt8.ofNat ((n / 65536) % 256).toNat] = bs ++ be (4 - 2) (n / 256 ^ 2) := by
          rw [Hcs.out, List.append_assoc]
          simp [be, Int.ediv_ediv]
        have hW2 := HW1.out
        rw [e] at hW2
        have HW2 : Hid _ := hW2
        clear HW1 hW2 e
        go_roundw
        case rel =>
          (repeat apply Exists.intro)
          refine ⟨?_, rfl⟩
          have hk1 : Keep (fun k => k = b ∨ sv.ownBlock = some k) w (w1.setCell ⟨b, 0, none⟩ (.slice va (L + 1) vc)) := by
            refine Keep.setCell ?_ _ _ (fun _ => .inl rfl)
            refine (Hkeep.out.alloc _).drew.trans' HA.out.keep (fun _ _ h => h) (fun k hk e => ?_)
            rcases Hfr.out k e with h | h
            · exact .inr h
            · omega
          refine ⟨2, _, _, by omega, rfl, rfl, HW2.out, ?_, ?_, hk1, ?_⟩
          · exact heap_s (HA.out.keep.get (heap_ad Hloc.out) Hne.out) (by simp; omega)
          · rcases HA.out.at_ with e | e
            · rw [e]; exact Hne.out
            · rw [e]; intro e2; simp at e2; omega
          · intro k hk
            rcases HA.out.at_ with e | e
            · exact Hfr.out k (by rw [← e]; exact hk)
            · rw [e] at hk; simp at hk; omega
        case measure => simp [intOf]
      ·
        have hd0 : wr.cell? ⟨b, 0, none⟩ = some sv' := by rw [cell_of hW.blk]; rfl
        have hz : wr.frozen? ⟨b, 0, none⟩ = false := free_of hW.blk
        have hbl' : b < wr.heap.size := lt_of_block hW.blk
        have hown := hW.own
        have hneb := hW.ne
        have hll' : w.heap.size < wr.heap.size := lt_of_block hloc
        obtain ⟨L, hlz⟩ : ∃ L, L = (bs ++ cs).length := ⟨_, rfl⟩
        rw [← hlz] at hown
        have hL : L ≤ 1000000000009 := by rw [hlz, hcs]; simp [be]; omega
        have HW : Hid (IsW wr b (bs ++ cs) 0 sv') := hW
        have HL : Hid (L = (bs ++ cs).length) := hlz
        have Hcs : Hid (_ = _) := hcs
        have Hloc : Hid (_ = _) := hloc
        have Hne : Hid (_ ≠ _) := hne
        have Hkeep : Hid _ := hkeep
        have Hfr : Hid _ := hfr
        clear hW hc0 hc1 hc2 hloc hne hkeep hfr hcs hlz h
        go_wp2
        refine Txt.wp_region_text (fun _ => True) [0, 0, 0, 0, 1, 0, 0, 0, 0, 3, 4, 0, 0, 4] (by kernel_rfl) (by kernel_rfl) trivial ?_
        repeat (first
          | (refine Txt.tl_pure (v := ?_) (by rfl) ?_ ?_; rotate_left; (focus (intro _; go_simp; try with_reducible rfl)); simp only [Act.put, List.setIfInBounds_toArray, List.set_cons_zero, List.set_cons_succ])
          | (refine Txt.tl_skip (by rfl) trivial ?_; simp only [Act.put, List.setIfInBounds_toArray, List.set_cons_zero, List.set_cons_succ])
          | (refine Txt.tl_load (v := ?_) (by rfl) (by rfl) (by rfl) (by kernel_rfl) ?_ ?_; rotate_left; (focus (first | assumption | (go_simp; done) | (go_simp; with_reducible rfl))); simp only [Act.put, List.setIfInBounds_toArray, List.set_cons_zero, List.set_cons_succ])
          | (refine Txt.tl_alloc (by rfl) ?_; go_simp; refine ⟨by (first | exact Txt.Le.alloc_drew _ _ | exact Txt.Le.alloc _ _), ?_⟩))
        refine Txt.tl_loud (by rfl) ?_
        refine wp_app slU8 (by rfl) (by rfl) (xs := (bs ++ cs).map bv) (v := sv') (n := L) ((hown.alloc _).drew) [_] (by rfl) (by rfl) (news_new wr #[_] _ _) (by simp [Value.oneCell']) (by unfold maxLen; omega) (by omega) ?_
        intro v' w1 happ
        refine ⟨trivial, ?_⟩
        simp only [Act.put, List.setIfInBounds_toArray, List.set_cons_zero, List.set_cons_succ]
        rw [byte_val] at happ
        obtain ⟨va, vc, rfl⟩ := own_form happ.own
        have hW1 := HW.out.more HL.out [_] 1 rfl happ
        have hbk := happ.keep.get (heap_ad HW.out.blk) hneb
        have hd1 : w1.cell? ⟨b, 0, none⟩ = some sv' := by rw [cell_of hbk]; rfl
        have hz1 : w1.frozen? ⟨b, 0, none⟩ = false := free_of hbk
        clear hbk
        have HA : Hid _ := happ
        have HW1 : Hid _ := hW1
        clear happ hW1
        repeat (first
          | (refine Txt.tl_pure (v := ?_) (by rfl) ?_ ?_; rotate_left; (focus (intro _; go_simp; try with_reducible rfl)); simp only [Act.put, List.setIfInBounds_toArray, List.set_cons_zero, List.set_cons_succ])
          | (refine Txt.tl_skip (by rfl) trivial ?_; simp only [Act.put, List.setIfInBounds_toArray, List.set_cons_zero, List.set_cons_succ])
          | (refine Txt.tl_load (v := ?_) (by rfl) (by rfl) (by rfl) (by kernel_rfl) ?_ ?_; rotate_left; (focus (first | assumption | (go_simp; done) | (go_simp; with_reducible rfl))); simp only [Act.put, List.setIfInBounds_toArray, List.set_cons_zero, List.set_cons_succ])
          | (refine Txt.tl_alloc (by rfl) ?_; go_simp; refine ⟨by (first | exact Txt.Le.alloc_drew _ _ | exact Txt.Le.alloc _ _), ?_⟩))
        refine Txt.tl_loud (by rfl) ?_
        go_simp
        refine Txt.tl_nil ?_
        have e : bs ++ cs ++ [UInt8.ofNat ((n / 16777216) % 256).toNat] = bs ++ be (4 - 3) (n / 256 ^ 3) := by
          rw [Hcs.out, List.append_assoc]
          simp [be, Int.ediv_ediv]
        have hW2 := HW1.out
        rw [e] at hW2
        have HW2 : Hid _ := hW2
        clear HW1 hW2 e
        go_roundw
        case rel =>
          (repeat apply Exists.intro)
          refine ⟨?_, rfl⟩
          have hk1 : Keep (fun k => k = b ∨ sv.ownBlock = some k) w (w1.setCell ⟨b, 0, none⟩ (.slice va (L + 1) vc)) := by
            refine Keep.setCell ?_ _ _ (fun _ => .inl rfl)
            refine (Hkeep.out.alloc _).drew.trans' HA.out.keep (fun _ _ h => h) (fun k hk e => ?_)
            rcases Hfr.out k e with h | h
            · exact .inr h
            · omega
          refine ⟨3, _, _, by omega, rfl, rfl, HW2.out, ?_, ?_, hk1, ?_⟩
          · exact heap_s (HA.out.keep.get (heap_ad Hloc.out) Hne.out) (by simp; omega)
          · rcases HA.out.at_ with e | e
            · rw [e]; exact Hne.out
            · rw [e]; intro e2; simp at e2; omega
          · intro k hk
            rcases HA.out.at_ with e | e
            · exact Hfr.out k (by rw [← e]; exact hk)
            · rw [e] at hk; simp at hk; omega
        case measure => simp [intOf]
    ·
      obtain rfl : j = 0 := by omega
      have hd1 : wr.cell? ⟨b, 1, none⟩ = some (.int .i64 0) := by rw [cell_of hW.blk]; rfl
      go_wp2
      refine leaves_cons (f := 69) (args := #[.pointer (some ⟨b, 0, none⟩), .pointer (some ⟨w.heap.size, 0, none⟩)]) (by simp) (by simp [go_sem]) ?_
      refine (fail_d b w.heap.size 0 0 .returning _ hd1 (by rw [cell_of hloc]; rfl) (free_of hW.blk)).mono ?_
      rintro e u' w'' ⟨rfl, rfl, rfl⟩
      refine ⟨_, results_tmp rfl _ _ _, rfl, sv', ?_, ?_, hfr⟩
      · rw [if_pos rfl]
        have e : bs ++ cs = bs ++ be 4 n := by rw [hcs]; simp
        rw [← e]
        exact ⟨by rw [block_set hW.blk]; rfl, (Keep.setCell (Keep.refl (fun k => k = b) wr) ⟨b, 1, none⟩ _ (fun _ => rfl)).row hW.own (fun k hk e => hW.ne (by rw [hk, e])), hW.ne⟩
      · rw [if_pos rfl]
        exact hkeep.setCell _ _ (fun _ => .inl rfl)
end Oct
end Go.Proofs.YthllhjdaknmlbaaDoor


namespace Go.Proofs.YthllhjdaknmlbaaDoor
open Go.RowKit
namespace Oct

/-- The writer's block with another error. -/
theorem IsW.setBad {w : World} {b : Nat} {bs : List UInt8} {bad : Int} {sv : Value} (h : IsW w b bs bad sv) (x : Int) : IsW (w.setCell ⟨b, 1, none⟩ (.int .i64 x)) b bs x sv :=
  ⟨by rw [block_set h.blk]; rfl, (Keep.setCell (Keep.refl (fun k => k = b) w) ⟨b, 1, none⟩ _ (fun _ => rfl)).row h.own (fun k hk e => h.ne (by rw [hk, e])), h.ne⟩
theorem IsW.keep {w w' : World} {b : Nat} {bs : List UInt8} {bad : Int} {sv : Value} (h : IsW w b bs bad sv) {S : Nat → Prop} (hk : Keep S w w') (h1 : ¬ S b) (h2 : ∀ k, sv.ownBlock = some k → ¬ S k) : IsW w' b bs bad sv :=
  ⟨hk.get h.blk h1, hk.row h.own h2, h.ne⟩
theorem After.refl (w : World) (b : Nat) (sv : Value) : After w w b sv sv := ⟨Keep.refl _ _, fun _ h => .inl h⟩
theorem After.trans {w w1 w2 : World} {b : Nat} {s s1 s2 : Value} (h : After w w1 b s s1) (k : After w1 w2 b s1 s2) : After w w2 b s s2 :=
  ⟨h.1.trans' k.1 (fun _ _ h => h) (fun x hx hs => by
    rcases hs with hs | hs
    · exact .inl hs
    · rcases h.2 x hs with e | e
      · exact .inr e
      · omega), fun x hx => by
    rcases k.2 x hx with e | e
    · exact h.2 x e
    · exact .inr (Nat.le_trans h.1.size e)⟩

/-- What 'Num' makes of what is written, and the error. -/
def wnum (s : List UInt8 × Int) (n k : Int) : List UInt8 × Int :=
  if s.2 ≠ 0 then s else if nbits k = 0 then (s.1, 1) else if n < 0 ∨ 256 ^ (nbits k / 8).toNat ≤ n then (s.1, 5) else (s.1 ++ be (nbits k / 8).toNat n, 0)

set_option maxRecDepth 100000 in
theorem num_bad (w : World) (b : Nat) (bs : List UInt8) (bad n k : Int) (sv : Value) (h : IsW w b bs bad sv) (hb : bad ≠ 0) :
    Calls Tryd.prog 39 #[.pointer (some ⟨b, 0, none⟩), .int .i64 n, .int .i64 k] w fun e w' => e = .returned (.pointer (some ⟨b, 0, none⟩)) ∧ w = w' := by
  have hc0 : w.cell? ⟨b, 0, none⟩ = some sv := by rw [cell_of h.blk]; rfl
  have hc1 : w.cell? ⟨b, 1, none⟩ = some (.int .i64 bad) := by rw [cell_of h.blk]; rfl
  have hc2 : w.cell? ⟨b, 2, none⟩ = some (.bool true) := by rw [cell_of h.blk]; rfl
  have hbl : b < w.heap.size := lt_of_block h.blk
  have hb' : (bad != 0) = true := by simpa using hb
  go_enter_defers Tryd.func39, Tryd.ntmps39
  go_wp2_with (first | (go_at_call 68; refine (wnone _ _ _ (by first | exact hc2 | (simp; exact hc2))).mono ?_; rintro e w' ⟨rfl, rfl⟩))
  exact ⟨_, results_tmp rfl _ _ _, rfl, rfl⟩

set_option maxRecDepth 100000 in
theorem num_arg (w : World) (b : Nat) (bs : List UInt8) (n k : Int) (sv : Value) (h : IsW w b bs 0 sv) (hk : nbits k = 0) :
    Calls Tryd.prog 39 #[.pointer (some ⟨b, 0, none⟩), .int .i64 n, .int .i64 k] w fun e w' => e = .returned (.pointer (some ⟨b, 0, none⟩)) ∧ IsW w' b bs 1 sv ∧ After w w' b sv sv := by
  have hc0 : w.cell? ⟨b, 0, none⟩ = some sv := by rw [cell_of h.blk]; rfl
  have hc1 : w.cell? ⟨b, 1, none⟩ = some (.int .i64 0) := by rw [cell_of h.blk]; rfl
  have hc2 : w.cell? ⟨b, 2, none⟩ = some (.bool true) := by rw [cell_of h.blk]; rfl
  have hbl : b < w.heap.size := lt_of_block h.blk
  have hne : ¬ b = w.heap.size := by omega
  have hne2 : ¬ w.heap.size = b := by omega
  go_enter_defers Tryd.func39, Tryd.ntmps39
  go_wp2_with (first | (go_at_call 68; refine (wnone _ _ _ (by first | exact hc2 | (simp; exact hc2))).mono ?_; rintro e w' ⟨rfl, rfl⟩) | (go_at_call 70; refine (bits_is _ 0 _ hk).mono ?_; rintro e w' ⟨rfl, rfl⟩))
  refine leaves_cons (f := 69) (args := #[.pointer (some ⟨b, 0, none⟩), .pointer (some ⟨w.heap.size, 0, none⟩)]) (by simp) (by simp [go_sem]) ?_
  refine (fail_d b w.heap.size 0 1 .returning _ (by rw [cell_of (heap_a h.blk)]; rfl) (by rw [cell_of (heap_alloc_new w _)]; rfl) (free_of (heap_a h.blk))).mono ?_
  rintro e u' w'' ⟨rfl, rfl, rfl⟩
  refine ⟨_, results_tmp rfl _ _ _, rfl, ?_⟩
  rw [if_pos rfl]
  exact ⟨(h.alloc _).setBad 1, ((Keep.refl _ _).alloc _).setCell _ _ (fun _ => .inl rfl), fun _ h => .inl h⟩

set_option maxRecDepth 100000 in
theorem num_neg (w : World) (b : Nat) (bs : List UInt8) (n k : Int) (sv : Value) (h : IsW w b bs 0 sv) (hk : nbits k ≠ 0) (hn : n < 0) :
    Calls Tryd.prog 39 #[.pointer (some ⟨b, 0, none⟩), .int .i64 n, .int .i64 k] w fun e w' => e = .returned (.pointer (some ⟨b, 0, none⟩)) ∧ IsW w' b bs 5 sv ∧ After w w' b sv sv := by
  have hc0 : w.cell? ⟨b, 0, none⟩ = some sv := by rw [cell_of h.blk]; rfl
  have hc1 : w.cell? ⟨b, 1, none⟩ = some (.int .i64 0) := by rw [cell_of h.blk]; rfl
  have hc2 : w.cell? ⟨b, 2, none⟩ = some (.bool true) := by rw [cell_of h.blk]; rfl
  have hbl : b < w.heap.size := lt_of_block h.blk
  have hne : ¬ b = w.heap.size := by omega
  have hne2 : ¬ w.heap.size = b := by omega
  obtain ⟨v, hv⟩ : ∃ v, nbits k = v := ⟨_, rfl⟩
  have hv0 : (v == 0) = false := by rw [← hv]; simpa using hk
  have Hv : Hid (nbits k = v) := hv
  clear hv hk
  go_enter_defers Tryd.func39, Tryd.ntmps39
  go_wp2_with (first | (go_at_call 68; refine (wnone _ _ _ (by first | exact hc2 | (simp; exact hc2))).mono ?_; rintro e w' ⟨rfl, rfl⟩) | (go_at_call 70; refine (bits_is _ v _ Hv.out).mono ?_; rintro e w' ⟨rfl, rfl⟩))
  refine leaves_cons (f := 69) (args := #[.pointer (some ⟨b, 0, none⟩), .pointer (some ⟨w.heap.size, 0, none⟩)]) (by simp) (by simp [go_sem]) ?_
  refine (fail_d b w.heap.size 0 5 .returning _ (by rw [cell_of (heap_a h.blk)]; rfl) (by rw [cell_of (heap_alloc_new w _)]; rfl) (free_of (heap_a h.blk))).mono ?_
  rintro e u' w'' ⟨rfl, rfl, rfl⟩
  refine ⟨_, results_tmp rfl _ _ _, rfl, ?_⟩
  rw [if_pos rfl]
  exact ⟨(h.alloc _).setBad 5, ((Keep.refl _ _).alloc _).setCell _ _ (fun _ => .inl rfl), fun _ h => .inl h⟩

set_option maxRecDepth 100000 in
theorem num_big1 (w : World) (b : Nat) (bs : List UInt8) (n : Int) (sv : Value) (h : IsW w b bs 0 sv) (hn0 : 0 ≤ n) (hn : 256 ≤ n) :
    Calls Tryd.prog 39 #[.pointer (some ⟨b, 0, none⟩), .int .i64 n, .int .i64 1] w fun e w' => e = .returned (.pointer (some ⟨b, 0, none⟩)) ∧ IsW w' b bs 5 sv ∧ After w w' b sv sv := by
  have hc0 : w.cell? ⟨b, 0, none⟩ = some sv := by rw [cell_of h.blk]; rfl
  have hc1 : w.cell? ⟨b, 1, none⟩ = some (.int .i64 0) := by rw [cell_of h.blk]; rfl
  have hc2 : w.cell? ⟨b, 2, none⟩ = some (.bool true) := by rw [cell_of h.blk]; rfl
  have hbl : b < w.heap.size := lt_of_block h.blk
  have hne : ¬ b = w.heap.size := by omega
  have hne2 : ¬ w.heap.size = b := by omega
  have hd : (n / 256 != 0) = true := by simp; omega
  go_enter_defers Tryd.func39, Tryd.ntmps39
  go_wp2_with (first | (go_at_call 68; refine (wnone _ _ _ (by first | exact hc2 | (simp; exact hc2))).mono ?_; rintro e w' ⟨rfl, rfl⟩) | (go_at_call 70; refine (bits_is _ 8 _ rfl).mono ?_; rintro e w' ⟨rfl, rfl⟩))
  refine leaves_cons (f := 69) (args := #[.pointer (some ⟨b, 0, none⟩), .pointer (some ⟨w.heap.size, 0, none⟩)]) (by simp) (by simp [go_sem]) ?_
  refine (fail_d b w.heap.size 0 5 .returning _ (by rw [cell_of (heap_a h.blk)]; rfl) (by rw [cell_of (heap_alloc_new w _)]; rfl) (free_of (heap_a h.blk))).mono ?_
  rintro e u' w'' ⟨rfl, rfl, rfl⟩
  refine ⟨_, results_tmp rfl _ _ _, rfl, ?_⟩
  rw [if_pos rfl]
  exact ⟨(h.alloc _).setBad 5, ((Keep.refl _ _).alloc _).setCell _ _ (fun _ => .inl rfl), fun _ h => .inl h⟩
set_option maxRecDepth 100000 in
theorem num_big2 (w : World) (b : Nat) (bs : List UInt8) (n : Int) (sv : Value) (h : IsW w b bs 0 sv) (hn0 : 0 ≤ n) (hn : 65536 ≤ n) :
    Calls Tryd.prog 39 #[.pointer (some ⟨b, 0, none⟩), .int .i64 n, .int .i64 2] w fun e w' => e = .returned (.pointer (some ⟨b, 0, none⟩)) ∧ IsW w' b bs 5 sv ∧ After w w' b sv sv := by
  have hc0 : w.cell? ⟨b, 0, none⟩ = some sv := by rw [cell_of h.blk]; rfl
  have hc1 : w.cell? ⟨b, 1, none⟩ = some (.int .i64 0) := by rw [cell_of h.blk]; rfl
  have hc2 : w.cell? ⟨b, 2, none⟩ = some (.bool true) := by rw [cell_of h.blk]; rfl
  have hbl : b < w.heap.size := lt_of_block h.blk
  have hne : ¬ b = w.heap.size := by omega
  have hne2 : ¬ w.heap.size = b := by omega
  have hd : (n / 65536 != 0) = true := by simp; omega
  go_enter_defers Tryd.func39, Tryd.ntmps39
  go_wp2_with (first | (go_at_call 68; refine (wnone _ _ _ (by first | exact hc2 | (simp; exact hc2))).mono ?_; rintro e w' ⟨rfl, rfl⟩) | (go_at_call 70; refine (bits_is _ 16 _ rfl).mono ?_; rintro e w' ⟨rfl, rfl⟩))
  refine leaves_cons (f := 69) (args := #[.pointer (some ⟨b, 0, none⟩), .pointer (some ⟨w.heap.size, 0, none⟩)]) (by simp) (by simp [go_sem]) ?_
  refine (fail_d b w.heap.size 0 5 .returning _ (by rw [cell_of (heap_a h.blk)]; rfl) (by rw [cell_of (heap_alloc_new w _)]; rfl) (free_of (heap_a h.blk))).mono ?_
  rintro e u' w'' ⟨rfl, rfl, rfl⟩
  refine ⟨_, results_tmp rfl _ _ _, rfl, ?_⟩
  rw [if_pos rfl]
  exact ⟨(h.alloc _).setBad 5, ((Keep.refl _ _).alloc _).setCell _ _ (fun _ => .inl rfl), fun _ h => .inl h⟩
set_option maxRecDepth 100000 in
theorem num_big4 (w : World) (b : Nat) (bs : List UInt8) (n : Int) (sv : Value) (h : IsW w b bs 0 sv) (hn0 : 0 ≤ n) (hn : 4294967296 ≤ n) :
    Calls Tryd.prog 39 #[.pointer (some ⟨b, 0, none⟩), .int .i64 n, .int .i64 4] w fun e w' => e = .returned (.pointer (some ⟨b, 0, none⟩)) ∧ IsW w' b bs 5 sv ∧ After w w' b sv sv := by
  have hc0 : w.cell? ⟨b, 0, none⟩ = some sv := by rw [cell_of h.blk]; rfl
  have hc1 : w.cell? ⟨b, 1, none⟩ = some (.int .i64 0) := by rw [cell_of h.blk]; rfl
  have hc2 : w.cell? ⟨b, 2, none⟩ = some (.bool true) := by rw [cell_of h.blk]; rfl
  have hbl : b < w.heap.size := lt_of_block h.blk
  have hne : ¬ b = w.heap.size := by omega
  have hne2 : ¬ w.heap.size = b := by omega
  have hd : (n / 4294967296 != 0) = true := by simp; omega
  go_enter_defers Tryd.func39, Tryd.ntmps39
  go_wp2_with (first | (go_at_call 68; refine (wnone _ _ _ (by first | exact hc2 | (simp; exact hc2))).mono ?_; rintro e w' ⟨rfl, rfl⟩) | (go_at_call 70; refine (bits_is _ 32 _ rfl).mono ?_; rintro e w' ⟨rfl, rfl⟩))
  refine leaves_cons (f := 69) (args := #[.pointer (some ⟨b, 0, none⟩), .pointer (some ⟨w.heap.size, 0, none⟩)]) (by simp) (by simp [go_sem]) ?_
  refine (fail_d b w.heap.size 0 5 .returning _ (by rw [cell_of (heap_a h.blk)]; rfl) (by rw [cell_of (heap_alloc_new w _)]; rfl) (free_of (heap_a h.blk))).mono ?_
  rintro e u' w'' ⟨rfl, rfl, rfl⟩
  refine ⟨_, results_tmp rfl _ _ _, rfl, ?_⟩
  rw [if_pos rfl]
  exact ⟨(h.alloc _).setBad 5, ((Keep.refl _ _).alloc _).setCell _ _ (fun _ => .inl rfl), fun _ h => .inl h⟩

theorem num_any (w : World) (b : Nat) (bs : List UInt8) (bad n k : Int) (sv : Value) (h : IsW w b bs bad sv) (hlen : bs.length ≤ 1000000000000) :
    Calls Tryd.prog 39 #[.pointer (some ⟨b, 0, none⟩), .int .i64 n, .int .i64 k] w fun e w' => e = .returned (.pointer (some ⟨b, 0, none⟩)) ∧
      ∃ sv', IsW w' b (wnum (bs, bad) n k).1 (wnum (bs, bad) n k).2 sv' ∧ After w w' b sv sv' := by
  by_cases hb : bad = 0
  case neg =>
    refine (num_bad w b bs bad n k sv h hb).mono ?_
    rintro e w' ⟨rfl, rfl⟩
    exact ⟨rfl, sv, by simpa [wnum, hb] using h, After.refl _ _ _⟩
  subst hb
  by_cases hk : nbits k = 0
  · refine (num_arg w b bs n k sv h hk).mono ?_
    rintro e w' ⟨rfl, h1, h2⟩
    exact ⟨rfl, sv, by simpa [wnum, hk] using h1, h2⟩
  by_cases hn : n < 0
  · refine (num_neg w b bs n k sv h hk hn).mono ?_
    rintro e w' ⟨rfl, h1, h2⟩
    exact ⟨rfl, sv, by simpa [wnum, hk, hn] using h1, h2⟩
  have hk3 : k = 1 ∨ k = 2 ∨ k = 4 := by
    unfold nbits at hk
    by_cases h4 : k = 4
    · omega
    by_cases h2 : k = 2
    · omega
    by_cases h1 : k = 1
    · omega
    simp [h4, h2, h1] at hk
  rcases hk3 with rfl | rfl | rfl
  · by_cases hbig : 256 ≤ n
    · refine (num_big1 w b bs n sv h (by omega) hbig).mono ?_
      rintro e w' ⟨rfl, h1, h2⟩
      have e : wnum (bs, 0) n 1 = (bs, 5) := by
        simp only [wnum, ne_eq, not_true_eq_false, if_false, hk]
        rw [if_pos (.inr (by simpa [nbits] using hbig))]
      rw [e]; exact ⟨rfl, sv, h1, h2⟩
    · refine (num_ok1 w b bs n sv h (by omega) (by omega) hlen).mono ?_
      rintro e w' ⟨rfl, sv', h1, h2⟩
      have e : wnum (bs, 0) n 1 = (bs ++ be 1 n, 0) := by
        simp only [wnum, ne_eq, not_true_eq_false, if_false, hk]
        rw [if_neg (by rw [show nbits 1 = 8 from rfl]; simp; omega)]; rfl
      rw [e]; exact ⟨rfl, sv', h1, h2⟩
  · by_cases hbig : 65536 ≤ n
    · refine (num_big2 w b bs n sv h (by omega) hbig).mono ?_
      rintro e w' ⟨rfl, h1, h2⟩
      have e : wnum (bs, 0) n 2 = (bs, 5) := by
        simp only [wnum, ne_eq, not_true_eq_false, if_false, hk]
        rw [if_pos (.inr (by simpa [nbits] using hbig))]
      rw [e]; exact ⟨rfl, sv, h1, h2⟩
    · refine (num_ok2 w b bs n sv h (by omega) (by omega) hlen).mono ?_
      rintro e w' ⟨rfl, sv', h1, h2⟩
      have e : wnum (bs, 0) n 2 = (bs ++ be 2 n, 0) := by
        simp only [wnum, ne_eq, not_true_eq_false, if_false, hk]
        rw [if_neg (by rw [show nbits 2 = 16 from rfl]; simp; omega)]; rfl
      rw [e]; exact ⟨rfl, sv', h1, h2⟩
  · by_cases hbig : 4294967296 ≤ n
    · refine (num_big4 w b bs n sv h (by omega) hbig).mono ?_
      rintro e w' ⟨rfl, h1, h2⟩
      have e : wnum (bs, 0) n 4 = (bs, 5) := by
        simp only [wnum, ne_eq, not_true_eq_false, if_false, hk]
        rw [if_pos (.inr (by simpa [nbits] using hbig))]
      rw [e]; exact ⟨rfl, sv, h1, h2⟩
    · refine (num_ok4 w b bs n sv h (by omega) (by omega) hlen).mono ?_
      rintro e w' ⟨rfl, sv', h1, h2⟩
      have e : wnum (bs, 0) n 4 = (bs ++ be 4 n, 0) := by
        simp only [wnum, ne_eq, not_true_eq_false, if_false, hk]
        rw [if_neg (by rw [show nbits 4 = 32 from rfl]; simp; omega)]; rfl
      rw [e]; exact ⟨rfl, sv', h1, h2⟩
end Oct
end Go.Proofs.YthllhjdaknmlbaaDoor


namespace Go.Proofs.YthllhjdaknmlbaaDoor
open Go.RowKit
namespace Oct

/-- 'none' answers yes. -/
def IsNone (p : Value) (w : World) : Prop := Calls Tryd.prog 68 #[p] w fun e w' => e = .returned (.bool true) ∧ w = w'
theorem none_nil (w : World) : IsNone (.pointer none) w := wnone_nil w
theorem none_zero (w : World) (b : Nat) (h : w.cell? ⟨b, 2, none⟩ = some (.bool false)) : IsNone (.pointer (some ⟨b, 0, none⟩)) w := wnone w b false h

set_option maxRecDepth 100000 in
theorem num_none (w : World) (p : Value) (n k : Int) (h : IsNone p w) : Calls Tryd.prog 39 #[p, .int .i64 n, .int .i64 k] w fun e w' => e = .returned p ∧ w = w' := by
  go_enter_defers Tryd.func39, Tryd.ntmps39
  go_wp2_with (first | (go_at_call 68; refine Calls.mono h ?_; rintro e w' ⟨rfl, rfl⟩))
  exact ⟨_, results_tmp rfl _ _ _, rfl, rfl⟩
set_option maxRecDepth 100000 in
theorem raw_none (w : World) (p : Value) (s : ByteArray) (h : IsNone p w) : Calls Tryd.prog 40 #[p, .string s] w fun e w' => e = .returned p ∧ w = w' := by
  go_enter Tryd.func40, Tryd.ntmps40
  go_wp2_with (first | (go_at_call 68; refine Calls.mono h ?_; rintro e w' ⟨rfl, rfl⟩))
  go_ret
  exact ⟨rfl, rfl⟩
set_option maxRecDepth 100000 in
theorem done_none (w : World) (p : Value) (h : IsNone p w) : Calls Tryd.prog 41 #[p] w fun e w' => e = .returned (.tuple #[.string ByteArray.empty, .int .i64 8]) ∧ w = w' := by
  go_enter Tryd.func41, Tryd.ntmps41
  go_wp2_with (first | (go_at_call 68; refine Calls.mono h ?_; rintro e w' ⟨rfl, rfl⟩))
  go_ret2
  exact ⟨rfl, rfl⟩

set_option maxRecDepth 100000 in
theorem new_any (w : World) : Calls Tryd.prog 38 #[] w fun e w' => e = .returned (.pointer (some ⟨w.heap.size, 0, none⟩)) ∧ IsW w' w.heap.size [] 0 (.slice none 0 0) ∧ Keep (fun _ => False) w w' := by
  go_enter Tryd.func38, Tryd.ntmps38
  go_wp2
  go_ret
  exact ⟨rfl, ⟨heap_alloc_new w _, World.ownsRow_nil _ _ _ _, by simp [Value.ownBlock]⟩, (Keep.refl _ _).alloc _⟩

/-- What 'Raw' and 'Text' make of it. -/
def wraw (s : List UInt8 × Int) (x : ByteArray) : List UInt8 × Int := if s.2 ≠ 0 then s else (s.1 ++ x.data.toList, 0)
def wtext (s : List UInt8 × Int) (x : ByteArray) : List UInt8 × Int := if s.2 ≠ 0 then s else if 65535 < x.size then (s.1, 3) else (s.1 ++ be 2 x.size ++ x.data.toList, 0)

theorem byteCells_bv (s : ByteArray) : byteCells s = s.data.toList.map bv := rfl

/-- The writer behind an append, the new slice stored back. -/
theorem IsW.put {w w1 : World} {b n : Nat} {bs : List UInt8} {sv v' : Value} {c : List UInt8} (h : IsW w b bs 0 sv) (ha : Appended w w1 5 1 sv v' (bs.length + n) (bs.map bv ++ c.map bv)) : IsW (w1.setCell ⟨b, 0, none⟩ v') b (bs ++ c) 0 v' := by
  have hb := lt_of_block h.blk
  have hne : v'.ownBlock ≠ some b := by
    rcases ha.at_ with e | e
    · rw [e]; exact h.ne
    · rw [e]; intro e2; simp at e2; omega
  have hc : c.length = n := by have := ha.own.1; simp at this; omega
  refine ⟨by rw [block_set (ha.keep.get h.blk h.ne)]; rfl, ?_, hne⟩
  have := (Keep.setCell (Keep.refl (fun k => k = b) w1) ⟨b, 0, none⟩ v' (fun _ => rfl)).row ha.own (fun k hk e => hne (by rw [hk, e]))
  rw [List.map_append, List.length_append, hc]; exact this
theorem IsW.putAfter {w w1 : World} {b : Nat} {sv v' : Value} {n : Nat} {xs : List Value} (ha : Appended w w1 5 1 sv v' n xs) : After w (w1.setCell ⟨b, 0, none⟩ v') b sv v' :=
  ⟨(ha.keep.mono fun _ _ h => .inr h).setCell _ _ (fun _ => .inl rfl), fun k hk => by
    rcases ha.at_ with e | e
    · exact .inl (by rw [← e]; exact hk)
    · rw [e] at hk; simp at hk; omega⟩

set_option maxRecDepth 100000 in
theorem raw_any (w : World) (b : Nat) (bs : List UInt8) (bad : Int) (s : ByteArray) (sv : Value) (h : IsW w b bs bad sv) (hlen : bs.length + s.size ≤ 100000000000000) :
    Calls Tryd.prog 40 #[.pointer (some ⟨b, 0, none⟩), .string s] w fun e w' => e = .returned (.pointer (some ⟨b, 0, none⟩)) ∧
      ∃ sv', IsW w' b (wraw (bs, bad) s).1 (wraw (bs, bad) s).2 sv' ∧ After w w' b sv sv' := by
  have hc0 : w.cell? ⟨b, 0, none⟩ = some sv := by rw [cell_of h.blk]; rfl
  have hc1 : w.cell? ⟨b, 1, none⟩ = some (.int .i64 bad) := by rw [cell_of h.blk]; rfl
  have hc2 : w.cell? ⟨b, 2, none⟩ = some (.bool true) := by rw [cell_of h.blk]; rfl
  have hbl : b < w.heap.size := lt_of_block h.blk
  have hfree : w.frozen? ⟨b, 0, none⟩ = false := free_of h.blk
  by_cases hb : bad = 0
  · subst hb
    have hown := h.own
    obtain ⟨va, vc, rfl⟩ := own_form hown
    have hneb := h.ne
    have H : Hid _ := h
    clear h
    go_enter Tryd.func40, Tryd.ntmps40
    go_wp2_with (first | (go_at_call 68; refine (wnone _ _ _ (by first | exact hc2 | (simp; exact hc2))).mono ?_; rintro e w' ⟨rfl, rfl⟩) | (at_builtin; refine wpList_plain rfl (fun K hK => ?_); refine wp_app_src slU8 (by rfl) (by rfl) hown (by rfl) (Src.ofString _ Tryd.underlying9 s) (by unfold maxLen; omega) (by omega) ?_; intro v' w1 happ; obtain ⟨ya, yc, rfl⟩ := own_form happ.own; have hbk := happ.keep.get H.out.blk hneb; have hd1 : w1.cell? ⟨b, 0, none⟩ = some _ := (by rw [cell_of hbk]; rfl); have hz1 : w1.frozen? ⟨b, 0, none⟩ = false := free_of hbk; have HA : Hid _ := happ; clear happ hbk; refine hK _ _ ?_))
    go_ret
    refine ⟨rfl, _, IsW.put H.out HA.out, IsW.putAfter HA.out⟩
  · have hb' : (bad == 0) = false := by simpa using hb
    go_enter Tryd.func40, Tryd.ntmps40
    go_wp2_with (first | (go_at_call 68; refine (wnone _ _ _ (by first | exact hc2 | (simp; exact hc2))).mono ?_; rintro e w' ⟨rfl, rfl⟩))
    go_ret
    exact ⟨rfl, sv, by simpa [wraw, hb] using h, After.refl _ _ _⟩

/-- The string of a row of bytes. -/
theorem own_string (w : World) (bs : List UInt8) (sv : Value) (h : w.ownsRow 0 5 1 sv bs.length (bs.map bv)) : (convert 81 9 sv).run Tryd.prog w = .ok (.string ⟨bs.toArray⟩) w := by
  rcases h.2 with ⟨rfl, h0⟩ | ⟨g, cap, cur, rfl, _, hg, _, _, _, htk⟩
  · have : bs = [] := List.eq_nil_of_length_eq_zero h0
    subst this
    exact Lib.run_convert_nil_bytes w _ _ _ 0 Tryd.underlying81 Tryd.underlying5 Tryd.underlying9
  · refine run_convert_bytes_back w _ _ 5 _ cap bs Tryd.underlying81 Tryd.underlying5 Tryd.underlying9 ?_
    exact Lib.bytes_of_row hg (by rw [Nat.mul_one] at htk; exact htk)

set_option maxRecDepth 100000 in
theorem done_any (w : World) (b : Nat) (bs : List UInt8) (bad : Int) (sv : Value) (h : IsW w b bs bad sv) :
    Calls Tryd.prog 41 #[.pointer (some ⟨b, 0, none⟩)] w fun e w' => e = .returned (.tuple #[.string (if bad = 0 then ⟨bs.toArray⟩ else ByteArray.empty), .int .i64 bad]) ∧ Keep (fun _ => False) w w' := by
  have hc0 : w.cell? ⟨b, 0, none⟩ = some sv := by rw [cell_of h.blk]; rfl
  have hc1 : w.cell? ⟨b, 1, none⟩ = some (.int .i64 bad) := by rw [cell_of h.blk]; rfl
  have hc2 : w.cell? ⟨b, 2, none⟩ = some (.bool true) := by rw [cell_of h.blk]; rfl
  have hbl : b < w.heap.size := lt_of_block h.blk
  by_cases hb : bad = 0
  · subst hb
    have hcv := own_string w bs sv h.own
    clear h
    go_enter Tryd.func41, Tryd.ntmps41
    go_wp2_with (first | (go_at_call 68; refine (wnone _ _ _ (by first | exact hc2 | (simp; exact hc2))).mono ?_; rintro e w' ⟨rfl, rfl⟩))
    go_ret2
    exact ⟨by simp, Keep.refl _ _⟩
  · have hb' : (bad != 0) = true := by simpa using hb
    clear h
    go_enter Tryd.func41, Tryd.ntmps41
    go_wp2_with (first | (go_at_call 68; refine (wnone _ _ _ (by first | exact hc2 | (simp; exact hc2))).mono ?_; rintro e w' ⟨rfl, rfl⟩))
    refine Txt.wp_region_text (fun _ => True) [0, 0, 0, 1, 0, 0] (by kernel_rfl) (by kernel_rfl) trivial ?_
    repeat (first
      | (refine Txt.tl_pure (v := ?_) (by rfl) ?_ ?_; rotate_left; (focus (intro _; go_simp; try with_reducible rfl)); simp only [Act.put, List.setIfInBounds_toArray, List.set_cons_zero, List.set_cons_succ])
      | (refine Txt.tl_skip (by rfl) trivial ?_; simp only [Act.put, List.setIfInBounds_toArray, List.set_cons_zero, List.set_cons_succ])
      | (refine Txt.tl_load (v := ?_) (by rfl) (by rfl) (by rfl) (by kernel_rfl) ?_ ?_; rotate_left; (focus (first | assumption | (go_simp; done) | (go_simp; with_reducible rfl))); simp only [Act.put, List.setIfInBounds_toArray, List.set_cons_zero, List.set_cons_succ])
      | (refine Txt.tl_alloc (by rfl) ?_; go_simp; refine ⟨by (first | exact Txt.Le.alloc_drew _ _ | exact Txt.Le.alloc _ _), ?_⟩))
    refine Txt.tl_nil ?_
    go_wp2
    go_ret2
    exact ⟨by simp [hb]; rfl, (Keep.refl _ _).drew⟩
end Oct
end Go.Proofs.YthllhjdaknmlbaaDoor


namespace Go.Proofs.YthllhjdaknmlbaaDoor
open Go.RowKit
namespace OctW
open Oct
theorem done_ok (w : World) (b : Nat) (bs : List UInt8) (sv : Value) (h : IsW w b bs 0 sv) :
    Calls Tryd.prog 41 #[.pointer (some ⟨b, 0, none⟩)] w fun e w' => e = .returned (.tuple #[.string ⟨bs.toArray⟩, .int .i64 0]) ∧ Keep (fun _ => False) w w' := by
  refine (done_any w b bs 0 sv h).mono ?_
  rintro e w' ⟨rfl, k⟩
  exact ⟨rfl, k⟩
theorem wraw_ok (w : World) (b : Nat) (bs : List UInt8) (s : ByteArray) (sv : Value) (h : IsW w b bs 0 sv) (hl : bs.length + s.size ≤ 10000000000) :
    Calls Tryd.prog 40 #[.pointer (some ⟨b, 0, none⟩), .string s] w fun e w' => e = .returned (.pointer (some ⟨b, 0, none⟩)) ∧ ∃ sv', IsW w' b (bs ++ s.data.toList) 0 sv' ∧ After w w' b sv sv' := by
  have e : wraw (bs, 0) s = (bs ++ s.data.toList, 0) := by unfold wraw; rw [if_neg (by simp)]
  have := raw_any w b bs 0 s sv h (by omega)
  rwa [e] at this
/-- The writer that a function has made: its frame, seen from the world where the function began. -/
structure Wr (w w' : World) (bw : Nat) (bs : List UInt8) : Prop where
  ok : ∃ sv, IsW w' bw bs 0 sv ∧ ∀ x, sv.ownBlock = some x → bw < x
  keep : Keep (fun _ => False) w w'
  new : w.heap.size ≤ bw
section
variable {w w' : World} {bw : Nat} {bs : List UInt8}
theorem Wr.calm (h : Wr w w' bw bs) {w'' : World} (k : Keep (fun _ => False) w' w'') : Wr w w'' bw bs := by
  obtain ⟨sv, h1, h2⟩ := h.ok
  exact ⟨⟨sv, h1.keep k (fun h => h) (fun _ _ h => h), h2⟩, h.keep.trans k, h.new⟩
theorem Wr.wrote (h : Wr w w' bw bs) {w'' : World} {bs' : List UInt8} {sv sv' : Value} (h0 : IsW w' bw bs 0 sv) (h2 : ∀ x, sv.ownBlock = some x → bw < x) (hw : IsW w'' bw bs' 0 sv') (k : After w' w'' bw sv sv') : Wr w w'' bw bs' := by
  have hn := h.new
  have hz := lt_of_block h0.blk
  refine ⟨⟨sv', hw, fun x hx => ?_⟩, h.keep.trans' k.1 (fun _ _ h => h) (fun y hy e => ?_), hn⟩
  · rcases k.2 x hx with e | e
    · exact h2 x e
    · omega
  · rcases e with e | e
    · omega
    · have := h2 y e; omega
theorem new_wr (w : World) : Calls Tryd.prog 38 #[] w fun e w' => e = .returned (.pointer (some ⟨w.heap.size, 0, none⟩)) ∧ Wr w w' w.heap.size [] := by
  refine (new_any w).mono ?_
  rintro e w' ⟨rfl, h, k⟩
  exact ⟨rfl, ⟨_, h, fun x hx => by simp [Value.ownBlock] at hx⟩, k, Nat.le_refl _⟩
theorem num1_wr (h : Wr w w' bw bs) (n : Int) (hn : 0 ≤ n) (hn' : n < 256) (hl : bs.length ≤ 1000000000) :
    Calls Tryd.prog 39 #[.pointer (some ⟨bw, 0, none⟩), .int .i64 n, .int .i64 1] w' fun e w'' => e = .returned (.pointer (some ⟨bw, 0, none⟩)) ∧ Wr w w'' bw (bs ++ be 1 n) := by
  obtain ⟨sv, h0, h2⟩ := h.ok
  refine (num_ok1 w' bw bs n sv h0 hn (by simpa using hn') (by omega)).mono ?_
  rintro e w'' ⟨rfl, sv', h3, h4⟩
  exact ⟨rfl, h.wrote h0 h2 h3 h4⟩
theorem num2_wr (h : Wr w w' bw bs) (n : Int) (hn : 0 ≤ n) (hn' : n < 65536) (hl : bs.length ≤ 1000000000) :
    Calls Tryd.prog 39 #[.pointer (some ⟨bw, 0, none⟩), .int .i64 n, .int .i64 2] w' fun e w'' => e = .returned (.pointer (some ⟨bw, 0, none⟩)) ∧ Wr w w'' bw (bs ++ be 2 n) := by
  obtain ⟨sv, h0, h2⟩ := h.ok
  refine (num_ok2 w' bw bs n sv h0 hn (by simpa using hn') (by omega)).mono ?_
  rintro e w'' ⟨rfl, sv', h3, h4⟩
  exact ⟨rfl, h.wrote h0 h2 h3 h4⟩
theorem num4_wr (h : Wr w w' bw bs) (n : Int) (hn : 0 ≤ n) (hn' : n < 4294967296) (hl : bs.length ≤ 1000000000) :
    Calls Tryd.prog 39 #[.pointer (some ⟨bw, 0, none⟩), .int .i64 n, .int .i64 4] w' fun e w'' => e = .returned (.pointer (some ⟨bw, 0, none⟩)) ∧ Wr w w'' bw (bs ++ be 4 n) := by
  obtain ⟨sv, h0, h2⟩ := h.ok
  refine (num_ok4 w' bw bs n sv h0 hn (by simpa using hn') (by omega)).mono ?_
  rintro e w'' ⟨rfl, sv', h3, h4⟩
  exact ⟨rfl, h.wrote h0 h2 h3 h4⟩
theorem raw_wr (h : Wr w w' bw bs) (s : ByteArray) (hl : bs.length + s.size ≤ 1000000000) :
    Calls Tryd.prog 40 #[.pointer (some ⟨bw, 0, none⟩), .string s] w' fun e w'' => e = .returned (.pointer (some ⟨bw, 0, none⟩)) ∧ Wr w w'' bw (bs ++ s.data.toList) := by
  obtain ⟨sv, h0, h2⟩ := h.ok
  refine (wraw_ok w' bw bs s sv h0 (by omega)).mono ?_
  rintro e w'' ⟨rfl, sv', h3, h4⟩
  exact ⟨rfl, h.wrote h0 h2 h3 h4⟩
theorem done_wr (h : Wr w w' bw bs) :
    Calls Tryd.prog 41 #[.pointer (some ⟨bw, 0, none⟩)] w' fun e w'' => e = .returned (.tuple #[.string ⟨bs.toArray⟩, .int .i64 0]) ∧ Keep (fun _ => False) w w'' := by
  obtain ⟨sv, h0, h2⟩ := h.ok
  refine (done_ok w' bw bs sv h0).mono ?_
  rintro e w'' ⟨rfl, k⟩
  exact ⟨rfl, h.keep.trans k⟩
end
end OctW
end Go.Proofs.YthllhjdaknmlbaaDoor
