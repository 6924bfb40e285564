/-
  Ids: arrays of 32 bytes; rows of ids; slices.Equal and petrelref06's Same over them.
-/
import Derived.Test.YtmnmemeldjbifaaBase
import Derived.Test.YtmnmemeldjbifaaText
import Derived.Test.YtmnmemeldjbifaaOct2
import Derived.Stop.BytesEq
import Derived.ProofKit
set_option linter.unusedVariables false
set_option linter.unusedSimpArgs false
namespace Go.Proofs.Ytmnmemeldjbifaa
open Go.RowKit
theorem Keep.range {S : Nat → Prop} {a w : World} (h : Keep S a w) {b i : Nat} {cs : List Value} (hb : b < a.heap.size) (hn : ¬ S b) (hr : a.rangeAt b i cs) : w.rangeAt b i cs :=
  fun j v hj => (h.cell (p := ⟨b, i + j, none⟩) hb hn).trans (hr j v hj)
namespace Ids
open Oct
/-- An id as a value. -/
abbrev idv (x : List UInt8) : Value := .agg (x.map bv).toArray
theorem sz8 (w : World) : (sizeOf 5).run Try.prog w = .ok 1 w := by
  have h := infoU8
  cases hi : Try.prog.info? 5 with
  | none => rw [hi] at h; cases h
  | some i =>
    rw [run_sizeOf w hi, show Try.prog.cellsOf 5 = 1 from by kernel_rfl]
theorem bv_cell : bv = Extern.Stop.cell := rfl
theorem neq_id (w : World) (x y : List UInt8) (hx : x.length = 32) (hy : y.length = 32) : Sem.run Try.prog (binOp .neq 41 (idv x) (idv y)) w = .ok (.bool (!(x == y))) w := by
  unfold idv
  rw [run_neq_struct, bv_cell, run_equalIn_bytes (P := Try.prog) w 9998 41 5 32 Try.underlying41 Try.underlying5 sz8 x y hx hy]
  rfl
theorem eql_id (w : World) (x y : List UInt8) (hx : x.length = 32) (hy : y.length = 32) : Sem.run Try.prog (binOp .eql 41 (idv x) (idv y)) w = .ok (.bool (x == y)) w := by
  unfold idv
  rw [run_eql_struct, bv_cell, run_equalIn_bytes (P := Try.prog) w 9998 41 5 32 Try.underlying41 Try.underlying5 sz8 x y hx hy]
  rfl
theorem guard_id (op : BinOp) (a b : Operand) (xs ys : Array Value) (w : World) : Sem.run Try.prog (eqGuard op 41 a b (.agg xs) (.agg ys)) w = .ok () w :=
  run_eqGuard_agg w op 41 a b xs ys (by kernel_rfl)

/-- A row of ids, in memory. -/
structure At (w : World) (a : Option Addr) (n : Nat) (els : List (List UInt8)) : Prop where
  len : els.length = n
  size : ∀ x ∈ els, x.length = 32
  most : n ≤ maxLen
  lay : n = 0 ∨ ∃ b off, a = some ⟨b, off, none⟩ ∧ b < w.heap.size ∧ ∀ i x, els[i]? = some x → w.rangeAt b (off + i * 32) (x.map bv)
theorem At.keep {w w' : World} {a : Option Addr} {n : Nat} {els : List (List UInt8)} (h : At w a n els) {S : Nat → Prop} (hk : Keep S w w') (hn : ∀ b off, a = some ⟨b, off, none⟩ → ¬ S b) : At w' a n els := by
  refine ⟨h.len, h.size, h.most, h.lay.imp id ?_⟩
  rintro ⟨b, off, ha, hb, hr⟩
  exact ⟨b, off, ha, Nat.lt_of_lt_of_le hb hk.size, fun i x hi => hk.range hb (hn b off ha) (hr i x hi)⟩
theorem At.calm {w w' : World} {a : Option Addr} {n : Nat} {els : List (List UInt8)} (h : At w a n els) (hk : Keep (fun _ => False) w w') : At w' a n els := h.keep hk (fun _ _ _ h => h)

theorem take_step {α : Type} (l m : List α) (k : Nat) (x y : α) (hx : l[k]? = some x) (hy : m[k]? = some y) (h : l.take k = m.take k) (e : x = y) : l.take (k + 1) = m.take (k + 1) := by
  rw [List.take_add_one, List.take_add_one, h, hx, hy, e]
theorem take_ne {α : Type} (l m : List α) (k : Nat) (x y : α) (hx : l[k]? = some x) (hy : m[k]? = some y) (e : x ≠ y) : l ≠ m := fun h => by
  rw [h, hy] at hx
  exact e (Option.some.inj hx).symm

set_option maxRecDepth 100000 in
set_option maxHeartbeats 1000000 in
theorem equal_any (w : World) (a1 a2 : Option Addr) (n1 n2 c1 c2 : Nat) (l1 l2 : List (List UInt8)) (h1 : At w a1 n1 l1) (h2 : At w a2 n2 l2) :
    Calls Try.prog 56 #[.slice a1 n1 c1, .slice a2 n2 c2] w fun e w' => e = .returned (.bool (decide (l1 = l2))) ∧ Keep (fun _ => False) w w' := by
  have hm1 := h1.most
  have hm2 := h2.most
  unfold maxLen at hm1 hm2
  by_cases hn : n1 = n2
  · subst hn
    have Hm : Hid ((l1.take n1 = l2.take n1) → l1 = l2) := fun e => by
      rwa [List.take_of_length_le (by rw [h1.len]; exact Nat.le_refl _), List.take_of_length_le (by rw [h2.len]; exact Nat.le_refl _)] at e
    have H1 : Hid _ := h1
    have H2 : Hid _ := h2
    have hgd := guard_id
    clear h1 h2
    go_enter Try.func56, Try.ntmps56
    go_wp2
    go_loopw [13] (fun i wr => ∃ k : Nat, k ≤ n1 ∧ i = .int .i64 k ∧ Keep (fun _ => False) w wr ∧ l1.take k = l2.take k) (fun i _ => n1 - (intOf i).toNat)
    case atStart => exact ⟨0, Nat.zero_le _, rfl, Keep.refl _ _, rfl⟩
    case round =>
      obtain ⟨k, hk, rfl, hkp, hm⟩ := hrel
      have HK : Hid _ := hkp
      have HM : Hid _ := hm
      clear hkp hm
      by_cases hlt : k < n1
      · obtain ⟨x, hx⟩ : ∃ x, l1[k]? = some x := ⟨_, List.getElem?_eq_getElem (by rw [H1.out.len]; omega)⟩
        obtain ⟨y, hy⟩ : ∃ y, l2[k]? = some y := ⟨_, List.getElem?_eq_getElem (by rw [H2.out.len]; omega)⟩
        obtain ⟨b1, o1, rfl, hb1, hr1⟩ : ∃ b off, a1 = some ⟨b, off, none⟩ ∧ b < w.heap.size ∧ ∀ i x, l1[i]? = some x → w.rangeAt b (off + i * 32) (x.map bv) := by rcases H1.out.lay with e | e; omega; exact e
        obtain ⟨b2, o2, rfl, hb2, hr2⟩ : ∃ b off, a2 = some ⟨b, off, none⟩ ∧ b < w.heap.size ∧ ∀ i x, l2[i]? = some x → w.rangeAt b (off + i * 32) (x.map bv) := by rcases H2.out.lay with e | e; omega; exact e
        have R1 : Hid _ := HK.out.range hb1 (fun h => h) (hr1 k x hx)
        have R2 : Hid _ := HK.out.range hb2 (fun h => h) (hr2 k y hy)
        have lx := H1.out.size x (List.mem_of_getElem? hx)
        have ly := H2.out.size y (List.mem_of_getElem? hy)
        have hcmp : ∀ w, Sem.run Try.prog (binOp .neq 41 (idv x) (idv y)) w = .ok (.bool (!(x == y))) w := fun w => neq_id w x y lx ly
        have L1 : Hid ((x.map bv).length = 32) := by show (x.map bv).length = 32; rw [List.length_map, lx]
        have L2 : Hid ((y.map bv).length = 32) := by show (y.map bv).length = 32; rw [List.length_map, ly]
        have Hx : Hid _ := hx
        have Hy : Hid _ := hy
        clear hr1 hr2 hx hy lx ly
        by_cases he : x = y
        · have HE : Hid _ := he
          have heb : (x == y) = true := by simpa using he
          rw [heb] at hcmp
          clear he heb
          go_wp2
          refine Txt.wp_region_text (fun _ => True) [0, 0, 0, 1, 0, 0, 0, 1, 0] (by kernel_rfl) (by kernel_rfl) trivial ?_
          repeat (first
            | (refine Txt.tl_pure (v := ?_) (by rfl) ?_ ?_; rotate_left; (focus (intro _; go_simp; try with_reducible rfl)); simp only [Act.put, List.setIfInBounds_toArray, List.set_cons_zero, List.set_cons_succ])
            | (refine Txt.tl_skip (by rfl) trivial ?_; simp only [Act.put, List.setIfInBounds_toArray, List.set_cons_zero, List.set_cons_succ])
            | (refine Txt.tl_load (v := ?_) (by rfl) (by rfl) (by rfl) (by kernel_rfl) ?_ ?_; rotate_left; (focus (first | assumption | (go_simp; done) | (go_simp; with_reducible rfl))); simp only [Act.put, List.setIfInBounds_toArray, List.set_cons_zero, List.set_cons_succ])
            | (refine Txt.tl_alloc (by rfl) ?_; go_simp; refine ⟨by (first | exact Txt.Le.alloc_drew _ _ | exact Txt.Le.alloc _ _), ?_⟩))
          refine Txt.tl_loadRow (by rfl) (by rfl) (by rfl) R1.out (by rw [L1.out]; kernel_rfl) ?_
          simp only [Act.put, List.setIfInBounds_toArray, List.set_cons_zero, List.set_cons_succ]
          repeat (first
            | (refine Txt.tl_pure (v := ?_) (by rfl) ?_ ?_; rotate_left; (focus (intro _; go_simp; try with_reducible rfl)); simp only [Act.put, List.setIfInBounds_toArray, List.set_cons_zero, List.set_cons_succ])
            | (refine Txt.tl_skip (by rfl) trivial ?_; simp only [Act.put, List.setIfInBounds_toArray, List.set_cons_zero, List.set_cons_succ])
            | (refine Txt.tl_load (v := ?_) (by rfl) (by rfl) (by rfl) (by kernel_rfl) ?_ ?_; rotate_left; (focus (first | assumption | (go_simp; done) | (go_simp; with_reducible rfl))); simp only [Act.put, List.setIfInBounds_toArray, List.set_cons_zero, List.set_cons_succ])
            | (refine Txt.tl_alloc (by rfl) ?_; go_simp; refine ⟨by (first | exact Txt.Le.alloc_drew _ _ | exact Txt.Le.alloc _ _), ?_⟩))
          refine Txt.tl_loadRow (by rfl) (by rfl) (by rfl) R2.out (by rw [L2.out]; kernel_rfl) ?_
          simp only [Act.put, List.setIfInBounds_toArray, List.set_cons_zero, List.set_cons_succ]
          repeat (first
            | (refine Txt.tl_pure (v := ?_) (by rfl) ?_ ?_; rotate_left; (focus (intro _; go_simp; try with_reducible rfl)); simp only [Act.put, List.setIfInBounds_toArray, List.set_cons_zero, List.set_cons_succ])
            | (refine Txt.tl_skip (by rfl) trivial ?_; simp only [Act.put, List.setIfInBounds_toArray, List.set_cons_zero, List.set_cons_succ])
            | (refine Txt.tl_load (v := ?_) (by rfl) (by rfl) (by rfl) (by kernel_rfl) ?_ ?_; rotate_left; (focus (first | assumption | (go_simp; done) | (go_simp; with_reducible rfl))); simp only [Act.put, List.setIfInBounds_toArray, List.set_cons_zero, List.set_cons_succ])
            | (refine Txt.tl_alloc (by rfl) ?_; go_simp; refine ⟨by (first | exact Txt.Le.alloc_drew _ _ | exact Txt.Le.alloc _ _), ?_⟩))
          refine Txt.tl_nil ?_
          go_wp2
          go_roundw
          case rel => exact ⟨k + 1, by omega, rfl, HK.out.drew, take_step l1 l2 k x y Hx.out Hy.out HM.out HE.out⟩
          case measure => simp [intOf]; omega
        · have HE : Hid _ := he
          have heb : (x == y) = false := by simpa using he
          rw [heb] at hcmp
          clear he heb
          go_wp2
          refine Txt.wp_region_text (fun _ => True) [0, 0, 0, 1, 0, 0, 0, 1, 0] (by kernel_rfl) (by kernel_rfl) trivial ?_
          repeat (first
            | (refine Txt.tl_pure (v := ?_) (by rfl) ?_ ?_; rotate_left; (focus (intro _; go_simp; try with_reducible rfl)); simp only [Act.put, List.setIfInBounds_toArray, List.set_cons_zero, List.set_cons_succ])
            | (refine Txt.tl_skip (by rfl) trivial ?_; simp only [Act.put, List.setIfInBounds_toArray, List.set_cons_zero, List.set_cons_succ])
            | (refine Txt.tl_load (v := ?_) (by rfl) (by rfl) (by rfl) (by kernel_rfl) ?_ ?_; rotate_left; (focus (first | assumption | (go_simp; done) | (go_simp; with_reducible rfl))); simp only [Act.put, List.setIfInBounds_toArray, List.set_cons_zero, List.set_cons_succ])
            | (refine Txt.tl_alloc (by rfl) ?_; go_simp; refine ⟨by (first | exact Txt.Le.alloc_drew _ _ | exact Txt.Le.alloc _ _), ?_⟩))
          refine Txt.tl_loadRow (by rfl) (by rfl) (by rfl) R1.out (by rw [L1.out]; kernel_rfl) ?_
          simp only [Act.put, List.setIfInBounds_toArray, List.set_cons_zero, List.set_cons_succ]
          repeat (first
            | (refine Txt.tl_pure (v := ?_) (by rfl) ?_ ?_; rotate_left; (focus (intro _; go_simp; try with_reducible rfl)); simp only [Act.put, List.setIfInBounds_toArray, List.set_cons_zero, List.set_cons_succ])
            | (refine Txt.tl_skip (by rfl) trivial ?_; simp only [Act.put, List.setIfInBounds_toArray, List.set_cons_zero, List.set_cons_succ])
            | (refine Txt.tl_load (v := ?_) (by rfl) (by rfl) (by rfl) (by kernel_rfl) ?_ ?_; rotate_left; (focus (first | assumption | (go_simp; done) | (go_simp; with_reducible rfl))); simp only [Act.put, List.setIfInBounds_toArray, List.set_cons_zero, List.set_cons_succ])
            | (refine Txt.tl_alloc (by rfl) ?_; go_simp; refine ⟨by (first | exact Txt.Le.alloc_drew _ _ | exact Txt.Le.alloc _ _), ?_⟩))
          refine Txt.tl_loadRow (by rfl) (by rfl) (by rfl) R2.out (by rw [L2.out]; kernel_rfl) ?_
          simp only [Act.put, List.setIfInBounds_toArray, List.set_cons_zero, List.set_cons_succ]
          repeat (first
            | (refine Txt.tl_pure (v := ?_) (by rfl) ?_ ?_; rotate_left; (focus (intro _; go_simp; try with_reducible rfl)); simp only [Act.put, List.setIfInBounds_toArray, List.set_cons_zero, List.set_cons_succ])
            | (refine Txt.tl_skip (by rfl) trivial ?_; simp only [Act.put, List.setIfInBounds_toArray, List.set_cons_zero, List.set_cons_succ])
            | (refine Txt.tl_load (v := ?_) (by rfl) (by rfl) (by rfl) (by kernel_rfl) ?_ ?_; rotate_left; (focus (first | assumption | (go_simp; done) | (go_simp; with_reducible rfl))); simp only [Act.put, List.setIfInBounds_toArray, List.set_cons_zero, List.set_cons_succ])
            | (refine Txt.tl_alloc (by rfl) ?_; go_simp; refine ⟨by (first | exact Txt.Le.alloc_drew _ _ | exact Txt.Le.alloc _ _), ?_⟩))
          refine Txt.tl_nil ?_
          go_wp2
          go_ret
          exact ⟨by rw [decide_eq_false (take_ne l1 l2 k x y Hx.out Hy.out HE.out)]; rfl, HK.out.drew⟩
      · obtain rfl : k = n1 := by omega
        have e : decide (l1 = l2) = true := decide_eq_true (Hm.out HM.out)
        go_wp2
        go_ret
        exact ⟨by rw [e]; rfl, HK.out⟩
  · have hne : decide (l1 = l2) = false := decide_eq_false (fun e => hn (by rw [← h1.len, ← h2.len, e]))
    rw [hne]
    clear h1 h2 hne
    go_enter Try.func56, Try.ntmps56
    go_wp2
    go_ret
    exact ⟨rfl, Keep.refl _ _⟩
set_option maxRecDepth 100000 in
set_option maxHeartbeats 1000000 in
theorem same_any (w : World) (a1 a2 : Option Addr) (n1 n2 c1 c2 : Nat) (l1 l2 : List (List UInt8)) (h1 : At w a1 n1 l1) (h2 : At w a2 n2 l2) :
    Calls Try.prog 44 #[.slice a1 n1 c1, .slice a2 n2 c2] w fun e w' => e = .returned (.bool (decide (l1 = l2))) ∧ Keep (fun _ => False) w w' := by
  have hm1 := h1.most
  have hm2 := h2.most
  unfold maxLen at hm1 hm2
  by_cases hn : n1 = n2
  · subst hn
    have Hm : Hid ((l1.take n1 = l2.take n1) → l1 = l2) := fun e => by
      rwa [List.take_of_length_le (by rw [h1.len]; exact Nat.le_refl _), List.take_of_length_le (by rw [h2.len]; exact Nat.le_refl _)] at e
    have H1 : Hid _ := h1
    have H2 : Hid _ := h2
    have hgd := guard_id
    clear h1 h2
    go_enter Try.func44, Try.ntmps44
    go_wp2
    go_loopw [5] (fun i wr => ∃ k : Nat, k ≤ n1 ∧ i = .int .i64 k ∧ Keep (fun _ => False) w wr ∧ l1.take k = l2.take k) (fun i _ => n1 - (intOf i).toNat)
    case atStart => exact ⟨0, Nat.zero_le _, rfl, Keep.refl _ _, rfl⟩
    case round =>
      obtain ⟨k, hk, rfl, hkp, hm⟩ := hrel
      have HK : Hid _ := hkp
      have HM : Hid _ := hm
      clear hkp hm
      by_cases hlt : k < n1
      · obtain ⟨x, hx⟩ : ∃ x, l1[k]? = some x := ⟨_, List.getElem?_eq_getElem (by rw [H1.out.len]; omega)⟩
        obtain ⟨y, hy⟩ : ∃ y, l2[k]? = some y := ⟨_, List.getElem?_eq_getElem (by rw [H2.out.len]; omega)⟩
        obtain ⟨b1, o1, rfl, hb1, hr1⟩ : ∃ b off, a1 = some ⟨b, off, none⟩ ∧ b < w.heap.size ∧ ∀ i x, l1[i]? = some x → w.rangeAt b (off + i * 32) (x.map bv) := by rcases H1.out.lay with e | e; omega; exact e
        obtain ⟨b2, o2, rfl, hb2, hr2⟩ : ∃ b off, a2 = some ⟨b, off, none⟩ ∧ b < w.heap.size ∧ ∀ i x, l2[i]? = some x → w.rangeAt b (off + i * 32) (x.map bv) := by rcases H2.out.lay with e | e; omega; exact e
        have R1 : Hid _ := HK.out.range hb1 (fun h => h) (hr1 k x hx)
        have R2 : Hid _ := HK.out.range hb2 (fun h => h) (hr2 k y hy)
        have lx := H1.out.size x (List.mem_of_getElem? hx)
        have ly := H2.out.size y (List.mem_of_getElem? hy)
        have hcmp : ∀ w, Sem.run Try.prog (binOp .neq 41 (idv x) (idv y)) w = .ok (.bool (!(x == y))) w := fun w => neq_id w x y lx ly
        have L1 : Hid ((x.map bv).length = 32) := by show (x.map bv).length = 32; rw [List.length_map, lx]
        have L2 : Hid ((y.map bv).length = 32) := by show (y.map bv).length = 32; rw [List.length_map, ly]
        have Hx : Hid _ := hx
        have Hy : Hid _ := hy
        clear hr1 hr2 hx hy lx ly
        by_cases he : x = y
        · have HE : Hid _ := he
          have heb : (x == y) = true := by simpa using he
          rw [heb] at hcmp
          clear he heb
          go_wp2
          refine Txt.wp_region_text (fun _ => True) [0, 0, 0, 1, 0, 0, 0, 1, 0] (by kernel_rfl) (by kernel_rfl) trivial ?_
          repeat (first
            | (refine Txt.tl_pure (v := ?_) (by rfl) ?_ ?_; rotate_left; (focus (intro _; go_simp; try with_reducible rfl)); simp only [Act.put, List.setIfInBounds_toArray, List.set_cons_zero, List.set_cons_succ])
            | (refine Txt.tl_skip (by rfl) trivial ?_; simp only [Act.put, List.setIfInBounds_toArray, List.set_cons_zero, List.set_cons_succ])
            | (refine Txt.tl_load (v := ?_) (by rfl) (by rfl) (by rfl) (by kernel_rfl) ?_ ?_; rotate_left; (focus (first | assumption | (go_simp; done) | (go_simp; with_reducible rfl))); simp only [Act.put, List.setIfInBounds_toArray, List.set_cons_zero, List.set_cons_succ])
            | (refine Txt.tl_alloc (by rfl) ?_; go_simp; refine ⟨by (first | exact Txt.Le.alloc_drew _ _ | exact Txt.Le.alloc _ _), ?_⟩))
          refine Txt.tl_loadRow (by rfl) (by rfl) (by rfl) R1.out (by rw [L1.out]; kernel_rfl) ?_
          simp only [Act.put, List.setIfInBounds_toArray, List.set_cons_zero, List.set_cons_succ]
          repeat (first
            | (refine Txt.tl_pure (v := ?_) (by rfl) ?_ ?_; rotate_left; (focus (intro _; go_simp; try with_reducible rfl)); simp only [Act.put, List.setIfInBounds_toArray, List.set_cons_zero, List.set_cons_succ])
            | (refine Txt.tl_skip (by rfl) trivial ?_; simp only [Act.put, List.setIfInBounds_toArray, List.set_cons_zero, List.set_cons_succ])
            | (refine Txt.tl_load (v := ?_) (by rfl) (by rfl) (by rfl) (by kernel_rfl) ?_ ?_; rotate_left; (focus (first | assumption | (go_simp; done) | (go_simp; with_reducible rfl))); simp only [Act.put, List.setIfInBounds_toArray, List.set_cons_zero, List.set_cons_succ])
            | (refine Txt.tl_alloc (by rfl) ?_; go_simp; refine ⟨by (first | exact Txt.Le.alloc_drew _ _ | exact Txt.Le.alloc _ _), ?_⟩))
          refine Txt.tl_loadRow (by rfl) (by rfl) (by rfl) R2.out (by rw [L2.out]; kernel_rfl) ?_
          simp only [Act.put, List.setIfInBounds_toArray, List.set_cons_zero, List.set_cons_succ]
          repeat (first
            | (refine Txt.tl_pure (v := ?_) (by rfl) ?_ ?_; rotate_left; (focus (intro _; go_simp; try with_reducible rfl)); simp only [Act.put, List.setIfInBounds_toArray, List.set_cons_zero, List.set_cons_succ])
            | (refine Txt.tl_skip (by rfl) trivial ?_; simp only [Act.put, List.setIfInBounds_toArray, List.set_cons_zero, List.set_cons_succ])
            | (refine Txt.tl_load (v := ?_) (by rfl) (by rfl) (by rfl) (by kernel_rfl) ?_ ?_; rotate_left; (focus (first | assumption | (go_simp; done) | (go_simp; with_reducible rfl))); simp only [Act.put, List.setIfInBounds_toArray, List.set_cons_zero, List.set_cons_succ])
            | (refine Txt.tl_alloc (by rfl) ?_; go_simp; refine ⟨by (first | exact Txt.Le.alloc_drew _ _ | exact Txt.Le.alloc _ _), ?_⟩))
          refine Txt.tl_nil ?_
          go_wp2
          go_roundw
          case rel => exact ⟨k + 1, by omega, rfl, HK.out.drew, take_step l1 l2 k x y Hx.out Hy.out HM.out HE.out⟩
          case measure => simp [intOf]; omega
        · have HE : Hid _ := he
          have heb : (x == y) = false := by simpa using he
          rw [heb] at hcmp
          clear he heb
          go_wp2
          refine Txt.wp_region_text (fun _ => True) [0, 0, 0, 1, 0, 0, 0, 1, 0] (by kernel_rfl) (by kernel_rfl) trivial ?_
          repeat (first
            | (refine Txt.tl_pure (v := ?_) (by rfl) ?_ ?_; rotate_left; (focus (intro _; go_simp; try with_reducible rfl)); simp only [Act.put, List.setIfInBounds_toArray, List.set_cons_zero, List.set_cons_succ])
            | (refine Txt.tl_skip (by rfl) trivial ?_; simp only [Act.put, List.setIfInBounds_toArray, List.set_cons_zero, List.set_cons_succ])
            | (refine Txt.tl_load (v := ?_) (by rfl) (by rfl) (by rfl) (by kernel_rfl) ?_ ?_; rotate_left; (focus (first | assumption | (go_simp; done) | (go_simp; with_reducible rfl))); simp only [Act.put, List.setIfInBounds_toArray, List.set_cons_zero, List.set_cons_succ])
            | (refine Txt.tl_alloc (by rfl) ?_; go_simp; refine ⟨by (first | exact Txt.Le.alloc_drew _ _ | exact Txt.Le.alloc _ _), ?_⟩))
          refine Txt.tl_loadRow (by rfl) (by rfl) (by rfl) R1.out (by rw [L1.out]; kernel_rfl) ?_
          simp only [Act.put, List.setIfInBounds_toArray, List.set_cons_zero, List.set_cons_succ]
          repeat (first
            | (refine Txt.tl_pure (v := ?_) (by rfl) ?_ ?_; rotate_left; (focus (intro _; go_simp; try with_reducible rfl)); simp only [Act.put, List.setIfInBounds_toArray, List.set_cons_zero, List.set_cons_succ])
            | (refine Txt.tl_skip (by rfl) trivial ?_; simp only [Act.put, List.setIfInBounds_toArray, List.set_cons_zero, List.set_cons_succ])
            | (refine Txt.tl_load (v := ?_) (by rfl) (by rfl) (by rfl) (by kernel_rfl) ?_ ?_; rotate_left; (focus (first | assumption | (go_simp; done) | (go_simp; with_reducible rfl))); simp only [Act.put, List.setIfInBounds_toArray, List.set_cons_zero, List.set_cons_succ])
            | (refine Txt.tl_alloc (by rfl) ?_; go_simp; refine ⟨by (first | exact Txt.Le.alloc_drew _ _ | exact Txt.Le.alloc _ _), ?_⟩))
          refine Txt.tl_loadRow (by rfl) (by rfl) (by rfl) R2.out (by rw [L2.out]; kernel_rfl) ?_
          simp only [Act.put, List.setIfInBounds_toArray, List.set_cons_zero, List.set_cons_succ]
          repeat (first
            | (refine Txt.tl_pure (v := ?_) (by rfl) ?_ ?_; rotate_left; (focus (intro _; go_simp; try with_reducible rfl)); simp only [Act.put, List.setIfInBounds_toArray, List.set_cons_zero, List.set_cons_succ])
            | (refine Txt.tl_skip (by rfl) trivial ?_; simp only [Act.put, List.setIfInBounds_toArray, List.set_cons_zero, List.set_cons_succ])
            | (refine Txt.tl_load (v := ?_) (by rfl) (by rfl) (by rfl) (by kernel_rfl) ?_ ?_; rotate_left; (focus (first | assumption | (go_simp; done) | (go_simp; with_reducible rfl))); simp only [Act.put, List.setIfInBounds_toArray, List.set_cons_zero, List.set_cons_succ])
            | (refine Txt.tl_alloc (by rfl) ?_; go_simp; refine ⟨by (first | exact Txt.Le.alloc_drew _ _ | exact Txt.Le.alloc _ _), ?_⟩))
          refine Txt.tl_nil ?_
          go_wp2
          go_ret
          exact ⟨by rw [decide_eq_false (take_ne l1 l2 k x y Hx.out Hy.out HE.out)]; rfl, HK.out.drew⟩
      · obtain rfl : k = n1 := by omega
        have e : decide (l1 = l2) = true := decide_eq_true (Hm.out HM.out)
        go_wp2
        go_ret
        exact ⟨by rw [e]; rfl, HK.out⟩
  · have hne : decide (l1 = l2) = false := decide_eq_false (fun e => hn (by rw [← h1.len, ← h2.len, e]))
    rw [hne]
    clear h1 h2 hne
    go_enter Try.func44, Try.ntmps44
    go_wp2
    go_ret
    exact ⟨rfl, Keep.refl _ _⟩
end Ids
end Go.Proofs.Ytmnmemeldjbifaa
