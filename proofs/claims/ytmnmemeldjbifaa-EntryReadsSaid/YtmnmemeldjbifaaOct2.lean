import Derived.Test.YtmnmemeldjbifaaOct1
import Derived.Test.YtmnmemeldjbifaaText
import Derived.Deep.AppendLies
set_option linter.unusedVariables false
set_option linter.unusedSimpArgs false
namespace Go.Proofs.Ytmnmemeldjbifaa
open Go.RowKit
namespace Oct
theorem infoU8 : (Try.prog.info? 5).map (fun i => (i.zero, i.size, i.bytes)) = some (some (.int .u8 0), 1, 1) := by kernel_rfl
/-- A byte as a value. -/
def bv (c : UInt8) : Value := .int .u8 (c.toNat : Int)

/-- A writer at block b: what is written, the first error; sv: its slice. -/
structure IsW (w : World) (b : Nat) (bs : List UInt8) (bad : Int) (sv : Value) : Prop where
  blk : w.heap[b]? = some (.cells #[sv, .int .i64 bad, .bool true] 106 (0, 0))
  own : w.ownsRow 0 5 1 sv bs.length (bs.map bv)
  ne : sv.ownBlock ≠ some b

/-- The m lowest bytes of n, the highest first. -/
def be : Nat → Int → List UInt8
  | 0, _ => []
  | m + 1, n => be m (n / 256) ++ [UInt8.ofNat (n % 256).toNat]

theorem slU8 : SlT Try.prog 53 5 (.int .u8 0) 1 1 := SlT.mk' Try.underlying53 infoU8 rfl (by omega)

theorem byte_val (x : Int) : Value.int .u8 (IntKind.u8.wrap x) = bv (UInt8.ofNat (x % 256).toNat) := by
  have : (UInt8.ofNat (x % 256).toNat).toNat = (x % 256).toNat := by
    rw [UInt8.toNat_ofNat']; omega
  rw [bv, this, IntKind.wrap_u8']
  congr 1; omega

/-- One more byte at the writer's end. -/
theorem IsW.more {w w1 : World} {b L : Nat} {bs : List UInt8} {sv v' : Value} (h : IsW w b bs 0 sv) {o : Obj} (hL : L = bs.length) (c : List UInt8) (n : Nat) (hn : n = c.length)
    (ha : Appended (w.alloc o).drew w1 5 1 sv v' (L + n) (bs.map bv ++ c.map bv)) : IsW (w1.setCell ⟨b, 0, none⟩ v') b (bs ++ c) 0 v' := by
  have hb := lt_of_block h.blk
  have hne : v'.ownBlock ≠ some b := by
    rcases ha.at_ with e | e
    · rw [e]; exact h.ne
    · rw [e]; intro e2; simp at e2; omega
  have h1 : (w.alloc o).drew.heap[b]? = some (.cells #[sv, .int .i64 0, .bool true] 106 (0, 0)) := (Below.heap_alloc w o b hb).trans h.blk
  have h2 := ha.keep.get h1 h.ne
  refine ⟨?_, ?_, hne⟩
  · rw [block_set h2]; rfl
  · have := (Keep.setCell (Keep.refl (fun k => k = b) w1) ⟨b, 0, none⟩ v' (fun _ => rfl)).row ha.own (fun k hk e => hne (by rw [hk, e]))
    rw [List.map_append, List.length_append, ← hL, ← hn]; exact this

theorem IsW.alloc {w : World} {b : Nat} {bs : List UInt8} {bad : Int} {sv : Value} (h : IsW w b bs bad sv) (o : Obj) : IsW (w.alloc o) b bs bad sv :=
  ⟨(Below.heap_alloc w o b (lt_of_block h.blk)).trans h.blk, h.own.alloc o, h.ne⟩

/-- What 'Num' leaves of the blocks. -/
def After (w w' : World) (b : Nat) (sv sv' : Value) : Prop := Keep (fun k => k = b ∨ sv.ownBlock = some k) w w' ∧ (∀ k, sv'.ownBlock = some k → sv.ownBlock = some k ∨ w.heap.size ≤ k)

set_option maxRecDepth 100000 in
theorem num_ok1 (w : World) (b : Nat) (bs : List UInt8) (n : Int) (sv : Value) (h : IsW w b bs 0 sv) (hn : 0 ≤ n) (hn' : n < 256 ^ 1) (hlen : bs.length ≤ 1000000000000) :
    Calls Try.prog 46 #[.pointer (some ⟨b, 0, none⟩), .int .i64 n, .int .i64 1] w fun e w' => e = .returned (.pointer (some ⟨b, 0, none⟩)) ∧ ∃ sv', IsW w' b (bs ++ be 1 n) 0 sv' ∧ After w w' b sv sv' := by
  have hc0 : w.cell? ⟨b, 0, none⟩ = some sv := by rw [cell_of h.blk]; rfl
  have hc1 : w.cell? ⟨b, 1, none⟩ = some (.int .i64 0) := by rw [cell_of h.blk]; rfl
  have hc2 : w.cell? ⟨b, 2, none⟩ = some (.bool true) := by rw [cell_of h.blk]; rfl
  have hbl : b < w.heap.size := lt_of_block h.blk
  have hlt : n < 256 := by simpa using hn'
  have hdiv : (n / 256 != 0) = false := by simp; omega
  clear hn'
  go_enter_defers Try.func46, Try.ntmps46
  go_wp2_with (first | (go_at_call 71; refine (wnone _ _ _ hc2).mono ?_; rintro e w' ⟨rfl, rfl⟩) | (go_at_call 68; refine (bits_is _ 8 _ rfl).mono ?_; rintro e w' ⟨rfl, rfl⟩))
  go_loopw [8] (fun i wr => ∃ j : Nat, ∃ cs sv', j ≤ 1 ∧ i = .int .i64 (8 * j) ∧ cs = be (1 - j) (n / 256 ^ j) ∧ IsW wr b (bs ++ cs) 0 sv' ∧ wr.heap[w.heap.size]? = some (.cells #[.int .i64 0] 26 (0, 0)) ∧ sv'.ownBlock ≠ some w.heap.size ∧
      Keep (fun k => k = b ∨ sv.ownBlock = some k) w wr ∧ (∀ k, sv'.ownBlock = some k → sv.ownBlock = some k ∨ w.heap.size ≤ k)) (fun i _ => (intOf i).toNat)
  case atStart =>
    refine ⟨1, _, sv, by omega, rfl, rfl, ?_, ?_, ?_, ?_, ?_⟩
    · simp only [Nat.sub_self, be, List.append_nil]; exact h.alloc _
    · exact heap_alloc_new w _
    · intro e; have := (h.own.lt _ e).2; omega
    · exact (Keep.refl _ _).alloc _
    · intro k hk; exact .inl hk
  case round =>
    obtain ⟨j, cs, sv', hj, rfl, hcs, hW, hloc, hne, hkeep, hfr⟩ := hrel
    by_cases h0 : 0 < j
    · obtain rfl : j = 1 := by omega
      have hd0 : wr.cell? ⟨b, 0, none⟩ = some sv' := by rw [cell_of hW.blk]; rfl
      have hz : wr.frozen? ⟨b, 0, none⟩ = false := free_of hW.blk
      have hbl' : b < wr.heap.size := lt_of_block hW.blk
      have hown := hW.own
      have hneb := hW.ne
      have hll' : w.heap.size < wr.heap.size := lt_of_block hloc
      obtain ⟨L, hlz⟩ : ∃ L, L = (bs ++ cs).length := ⟨_, rfl⟩
      rw [← hlz] at hown
      have hL : L ≤ 1000000000009 := by rw [hlz, hcs]; simp [be]; omega
      have HW : Hid (IsW wr b (bs ++ cs) 0 sv') := hW
      have HL : Hid (L = (bs ++ cs).length) := hlz
      have Hcs : Hid (_ = _) := hcs
      have Hloc : Hid (_ = _) := hloc
      have Hne : Hid (_ ≠ _) := hne
      have Hkeep : Hid _ := hkeep
      have Hfr : Hid _ := hfr
      clear hW hc0 hc1 hc2 hloc hne hkeep hfr hcs hlz h
      go_wp2
      refine Txt.wp_region_text (fun _ => True) [0, 0, 0, 0, 1, 0, 0, 0, 0, 3, 4, 0, 0, 4] (by kernel_rfl) (by kernel_rfl) trivial ?_
      repeat (first
        | (refine Txt.tl_pure (v := ?_) (by rfl) ?_ ?_; rotate_left; (focus (intro _; go_simp; try with_reducible rfl)); simp only [Act.put, List.setIfInBounds_toArray, List.set_cons_zero, List.set_cons_succ])
        | (refine Txt.tl_skip (by rfl) trivial ?_; simp only [Act.put, List.setIfInBounds_toArray, List.set_cons_zero, List.set_cons_succ])
        | (refine Txt.tl_load (v := ?_) (by rfl) (by rfl) (by rfl) (by kernel_rfl) ?_ ?_; rotate_left; (focus (first | assumption | (go_simp; done) | (go_simp; with_reducible rfl))); simp only [Act.put, List.setIfInBounds_toArray, List.set_cons_zero, List.set_cons_succ])
        | (refine Txt.tl_alloc (by rfl) ?_; go_simp; refine ⟨by (first | exact Txt.Le.alloc_drew _ _ | exact Txt.Le.alloc _ _), ?_⟩))
      refine Txt.tl_loud (by rfl) ?_
      refine wp_app slU8 (by rfl) (by rfl) (xs := (bs ++ cs).map bv) (v := sv') (n := L) ((hown.alloc _).drew) [_] (by rfl) (by rfl) (news_new wr #[_] _ _) (by simp [Value.oneCell']) (by unfold maxLen; omega) (by omega) ?_
      intro v' w1 happ
      refine ⟨trivial, ?_⟩
      simp only [Act.put, List.setIfInBounds_toArray, List.set_cons_zero, List.set_cons_succ]
      rw [byte_val] at happ
      obtain ⟨va, vc, rfl⟩ := own_form happ.own
      have hW1 := HW.out.more HL.out [_] 1 rfl happ
      have hbk := happ.keep.get (heap_ad HW.out.blk) hneb
      have hd1 : w1.cell? ⟨b, 0, none⟩ = some sv' := by rw [cell_of hbk]; rfl
      have hz1 : w1.frozen? ⟨b, 0, none⟩ = false := free_of hbk
      clear hbk
      have HA : Hid _ := happ
      have HW1 : Hid _ := hW1
      clear happ hW1
      repeat (first
        | (refine Txt.tl_pure (v := ?_) (by rfl) ?_ ?_; rotate_left; (focus (intro _; go_simp; try with_reducible rfl)); simp only [Act.put, List.setIfInBounds_toArray, List.set_cons_zero, List.set_cons_succ])
        | (refine Txt.tl_skip (by rfl) trivial ?_; simp only [Act.put, List.setIfInBounds_toArray, List.set_cons_zero, List.set_cons_succ])
        | (refine Txt.tl_load (v := ?_) (by rfl) (by rfl) (by rfl) (by kernel_rfl) ?_ ?_; rotate_left; (focus (first | assumption | (go_simp; done) | (go_simp; with_reducible rfl))); simp only [Act.put, List.setIfInBounds_toArray, List.set_cons_zero, List.set_cons_succ])
        | (refine Txt.tl_alloc (by rfl) ?_; go_simp; refine ⟨by (first | exact Txt.Le.alloc_drew _ _ | exact Txt.Le.alloc _ _), ?_⟩))
      refine Txt.tl_loud (by rfl) ?_
      go_simp
      refine Txt.tl_nil ?_
      have e : bs ++ cs ++ [UInt8.ofNat (n % 256).toNat] = bs ++ be (1 - 0) (n / 256 ^ 0) := by
        rw [Hcs.out, List.append_assoc]
        simp [be, Int.ediv_ediv]
      have hW2 := HW1.out
      rw [e] at hW2
      have HW2 : Hid _ := hW2
      clear HW1 hW2 e
      go_roundw
      case rel =>
        (repeat apply Exists.intro)
        refine ⟨?_, rfl⟩
        have hk1 : Keep (fun k => k = b ∨ sv.ownBlock = some k) w (w1.setCell ⟨b, 0, none⟩ (.slice va (L + 1) vc)) := by
          refine Keep.setCell ?_ _ _ (fun _ => .inl rfl)
          refine (Hkeep.out.alloc _).drew.trans' HA.out.keep (fun _ _ h => h) (fun k hk e => ?_)
          rcases Hfr.out k e with h | h
          · exact .inr h
          · omega
        refine ⟨0, _, _, by omega, rfl, rfl, HW2.out, ?_, ?_, hk1, ?_⟩
        · exact heap_s (HA.out.keep.get (heap_ad Hloc.out) Hne.out) (by simp; omega)
        · rcases HA.out.at_ with e | e
          · rw [e]; exact Hne.out
          · rw [e]; intro e2; simp at e2; omega
        · intro k hk
          rcases HA.out.at_ with e | e
          · exact Hfr.out k (by rw [← e]; exact hk)
          · rw [e] at hk; simp at hk; omega
      case measure => simp [intOf]
    ·
      obtain rfl : j = 0 := by omega
      have hd1 : wr.cell? ⟨b, 1, none⟩ = some (.int .i64 0) := by rw [cell_of hW.blk]; rfl
      go_wp2
      refine leaves_cons (f := 72) (args := #[.pointer (some ⟨b, 0, none⟩), .pointer (some ⟨w.heap.size, 0, none⟩)]) (by simp) (by simp [go_sem]) ?_
      refine (fail_d b w.heap.size 0 0 .returning _ hd1 (by rw [cell_of hloc]; rfl) (free_of hW.blk)).mono ?_
      rintro e u' w'' ⟨rfl, rfl, rfl⟩
      refine ⟨_, results_tmp rfl _ _ _, rfl, sv', ?_, ?_, hfr⟩
      · rw [if_pos rfl]
        have e : bs ++ cs = bs ++ be 1 n := by rw [hcs]; simp
        rw [← e]
        exact ⟨by rw [block_set hW.blk]; rfl, (Keep.setCell (Keep.refl (fun k => k = b) wr) ⟨b, 1, none⟩ _ (fun _ => rfl)).row hW.own (fun k hk e => hW.ne (by rw [hk, e])), hW.ne⟩
      · rw [if_pos rfl]
        exact hkeep.setCell _ _ (fun _ => .inl rfl)
set_option maxRecDepth 100000 in
theorem num_ok2 (w : World) (b : Nat) (bs : List UInt8) (n : Int) (sv : Value) (h : IsW w b bs 0 sv) (hn : 0 ≤ n) (hn' : n < 256 ^ 2) (hlen : bs.length ≤ 1000000000000) :
    Calls Try.prog 46 #[.pointer (some ⟨b, 0, none⟩), .int .i64 n, .int .i64 2] w fun e w' => e = .returned (.pointer (some ⟨b, 0, none⟩)) ∧ ∃ sv', IsW w' b (bs ++ be 2 n) 0 sv' ∧ After w w' b sv sv' := by
  have hc0 : w.cell? ⟨b, 0, none⟩ = some sv := by rw [cell_of h.blk]; rfl
  have hc1 : w.cell? ⟨b, 1, none⟩ = some (.int .i64 0) := by rw [cell_of h.blk]; rfl
  have hc2 : w.cell? ⟨b, 2, none⟩ = some (.bool true) := by rw [cell_of h.blk]; rfl
  have hbl : b < w.heap.size := lt_of_block h.blk
  have hlt : n < 65536 := by simpa using hn'
  have hdiv : (n / 65536 != 0) = false := by simp; omega
  clear hn'
  go_enter_defers Try.func46, Try.ntmps46
  go_wp2_with (first | (go_at_call 71; refine (wnone _ _ _ hc2).mono ?_; rintro e w' ⟨rfl, rfl⟩) | (go_at_call 68; refine (bits_is _ 16 _ rfl).mono ?_; rintro e w' ⟨rfl, rfl⟩))
  go_loopw [8] (fun i wr => ∃ j : Nat, ∃ cs sv', j ≤ 2 ∧ i = .int .i64 (8 * j) ∧ cs = be (2 - j) (n / 256 ^ j) ∧ IsW wr b (bs ++ cs) 0 sv' ∧ wr.heap[w.heap.size]? = some (.cells #[.int .i64 0] 26 (0, 0)) ∧ sv'.ownBlock ≠ some w.heap.size ∧
      Keep (fun k => k = b ∨ sv.ownBlock = some k) w wr ∧ (∀ k, sv'.ownBlock = some k → sv.ownBlock = some k ∨ w.heap.size ≤ k)) (fun i _ => (intOf i).toNat)
  case atStart =>
    refine ⟨2, _, sv, by omega, rfl, rfl, ?_, ?_, ?_, ?_, ?_⟩
    · simp only [Nat.sub_self, be, List.append_nil]; exact h.alloc _
    · exact heap_alloc_new w _
    · intro e; have := (h.own.lt _ e).2; omega
    · exact (Keep.refl _ _).alloc _
    · intro k hk; exact .inl hk
  case round =>
    obtain ⟨j, cs, sv', hj, rfl, hcs, hW, hloc, hne, hkeep, hfr⟩ := hrel
    by_cases h0 : 0 < j
    · have : j = 1 ∨ j = 2 := by omega
      rcases this with rfl | rfl
      ·
        have hd0 : wr.cell? ⟨b, 0, none⟩ = some sv' := by rw [cell_of hW.blk]; rfl
        have hz : wr.frozen? ⟨b, 0, none⟩ = false := free_of hW.blk
        have hbl' : b < wr.heap.size := lt_of_block hW.blk
        have hown := hW.own
        have hneb := hW.ne
        have hll' : w.heap.size < wr.heap.size := lt_of_block hloc
        obtain ⟨L, hlz⟩ : ∃ L, L = (bs ++ cs).length := ⟨_, rfl⟩
        rw [← hlz] at hown
        have hL : L ≤ 1000000000009 := by rw [hlz, hcs]; simp [be]; omega
        have HW : Hid (IsW wr b (bs ++ cs) 0 sv') := hW
        have HL : Hid (L = (bs ++ cs).length) := hlz
        have Hcs : Hid (_ = _) := hcs
        have Hloc : Hid (_ = _) := hloc
        have Hne : Hid (_ ≠ _) := hne
        have Hkeep : Hid _ := hkeep
        have Hfr : Hid _ := hfr
        clear hW hc0 hc1 hc2 hloc hne hkeep hfr hcs hlz h
        go_wp2
        refine Txt.wp_region_text (fun _ => True) [0, 0, 0, 0, 1, 0, 0, 0, 0, 3, 4, 0, 0, 4] (by kernel_rfl) (by kernel_rfl) trivial ?_
        repeat (first
          | (refine Txt.tl_pure (v := ?_) (by rfl) ?_ ?_; rotate_left; (focus (intro _; go_simp; try with_reducible rfl)); simp only [Act.put, List.setIfInBounds_toArray, List.set_cons_zero, List.set_cons_succ])
          | (refine Txt.tl_skip (by rfl) trivial ?_; simp only [Act.put, List.setIfInBounds_toArray, List.set_cons_zero, List.set_cons_succ])
          | (refine Txt.tl_load (v := ?_) (by rfl) (by rfl) (by rfl) (by kernel_rfl) ?_ ?_; rotate_left; (focus (first | assumption | (go_simp; done) | (go_simp; with_reducible rfl))); simp only [Act.put, List.setIfInBounds_toArray, List.set_cons_zero, List.set_cons_succ])
          | (refine Txt.tl_alloc (by rfl) ?_; go_simp; refine ⟨by (first | exact Txt.Le.alloc_drew _ _ | exact Txt.Le.alloc _ _), ?_⟩))
        refine Txt.tl_loud (by rfl) ?_
        refine wp_app slU8 (by rfl) (by rfl) (xs := (bs ++ cs).map bv) (v := sv') (n := L) ((hown.alloc _).drew) [_] (by rfl) (by rfl) (news_new wr #[_] _ _) (by simp [Value.oneCell']) (by unfold maxLen; omega) (by omega) ?_
        intro v' w1 happ
        refine ⟨trivial, ?_⟩
        simp only [Act.put, List.setIfInBounds_toArray, List.set_cons_zero, List.set_cons_succ]
        rw [byte_val] at happ
        obtain ⟨va, vc, rfl⟩ := own_form happ.own
        have hW1 := HW.out.more HL.out [_] 1 rfl happ
        have hbk := happ.keep.get (heap_ad HW.out.blk) hneb
        have hd1 : w1.cell? ⟨b, 0, none⟩ = some sv' := by rw [cell_of hbk]; rfl
        have hz1 : w1.frozen? ⟨b, 0, none⟩ = false := free_of hbk
        clear hbk
        have HA : Hid _ := happ
        have HW1 : Hid _ := hW1
        clear happ hW1
        repeat (first
          | (refine Txt.tl_pure (v := ?_) (by rfl) ?_ ?_; rotate_left; (focus (intro _; go_simp; try with_reducible rfl)); simp only [Act.put, List.setIfInBounds_toArray, List.set_cons_zero, List.set_cons_succ])
          | (refine Txt.tl_skip (by rfl) trivial ?_; simp only [Act.put, List.setIfInBounds_toArray, List.set_cons_zero, List.set_cons_succ])
          | (refine Txt.tl_load (v := ?_) (by rfl) (by rfl) (by rfl) (by kernel_rfl) ?_ ?_; rotate_left; (focus (first | assumption | (go_simp; done) | (go_simp; with_reducible rfl))); simp only [Act.put, List.setIfInBounds_toArray, List.set_cons_zero, List.set_cons_succ])
          | (refine Txt.tl_alloc (by rfl) ?_; go_simp; refine ⟨by (first | exact Txt.Le.alloc_drew _ _ | exact Txt.Le.alloc _ _), ?_⟩))
        refine Txt.tl_loud (by rfl) ?_
        go_simp
        refine Txt.tl_nil ?_
        have e : bs ++ cs ++ [UInt8.ofNat (n % 256).toNat] = bs ++ be (2 - 0) (n / 256 ^ 0) := by
          rw [Hcs.out, List.append_assoc]
          simp [be, Int.ediv_ediv]
        have hW2 := HW1.out
        rw [e] at hW2
        have HW2 : Hid _ := hW2
        clear HW1 hW2 e
        go_roundw
        case rel =>
          (repeat apply Exists.intro)
          refine ⟨?_, rfl⟩
          have hk1 : Keep (fun k => k = b ∨ sv.ownBlock = some k) w (w1.setCell ⟨b, 0, none⟩ (.slice va (L + 1) vc)) := by
            refine Keep.setCell ?_ _ _ (fun _ => .inl rfl)
            refine (Hkeep.out.alloc _).drew.trans' HA.out.keep (fun _ _ h => h) (fun k hk e => ?_)
            rcases Hfr.out k e with h | h
            · exact .inr h
            · omega
          refine ⟨0, _, _, by omega, rfl, rfl, HW2.out, ?_, ?_, hk1, ?_⟩
          · exact heap_s (HA.out.keep.get (heap_ad Hloc.out) Hne.out) (by simp; omega)
          · rcases HA.out.at_ with e | e
            · rw [e]; exact Hne.out
            · rw [e]; intro e2; simp at e2; omega
          · intro k hk
            rcases HA.out.at_ with e | e
            · exact Hfr.out k (by rw [← e]; exact hk)
            · rw [e] at hk; simp at hk; omega
        case measure => simp [intOf]
      ·
        have hd0 : wr.cell? ⟨b, 0, none⟩ = some sv' := by rw [cell_of hW.blk]; rfl
        have hz : wr.frozen? ⟨b, 0, none⟩ = false := free_of hW.blk
        have hbl' : b < wr.heap.size := lt_of_block hW.blk
        have hown := hW.own
        have hneb := hW.ne
        have hll' : w.heap.size < wr.heap.size := lt_of_block hloc
        obtain ⟨L, hlz⟩ : ∃ L, L = (bs ++ cs).length := ⟨_, rfl⟩
        rw [← hlz] at hown
        have hL : L ≤ 1000000000009 := by rw [hlz, hcs]; simp [be]; omega
        have HW : Hid (IsW wr b (bs ++ cs) 0 sv') := hW
        have HL : Hid (L = (bs ++ cs).length) := hlz
        have Hcs : Hid (_ = _) := hcs
        have Hloc : Hid (_ = _) := hloc
        have Hne : Hid (_ ≠ _) := hne
        have Hkeep : Hid _ := hkeep
        have Hfr : Hid _ := hfr
        clear hW hc0 hc1 hc2 hloc hne hkeep hfr hcs hlz h
        go_wp2
        refine Txt.wp_region_text (fun _ => True) [0, 0, 0, 0, 1, 0, 0, 0, 0, 3, 4, 0, 0, 4] (by kernel_rfl) (by kernel_rfl) trivial ?_
        repeat (first
          | (refine Txt.tl_pure (v := ?_) (by rfl) ?_ ?_; rotate_left; (focus (intro _; go_simp; try with_reducible rfl)); simp only [Act.put, List.setIfInBounds_toArray, List.set_cons_zero, List.set_cons_succ])
          | (refine Txt.tl_skip (by rfl) trivial ?_; simp only [Act.put, List.setIfInBounds_toArray, List.set_cons_zero, List.set_cons_succ])
          | (refine Txt.tl_load (v := ?_) (by rfl) (by rfl) (by rfl) (by kernel_rfl) ?_ ?_; rotate_left; (focus (first | assumption | (go_simp; done) | (go_simp; with_reducible rfl))); simp only [Act.put, List.setIfInBounds_toArray, List.set_cons_zero, List.set_cons_succ])
          | (refine Txt.tl_alloc (by rfl) ?_; go_simp; refine ⟨by (first | exact Txt.Le.alloc_drew _ _ | exact Txt.Le.alloc _ _), ?_⟩))
        refine Txt.tl_loud (by rfl) ?_
        refine wp_app slU8 (by rfl) (by rfl) (xs := (bs ++ cs).map bv) (v := sv') (n := L) ((hown.alloc _).drew) [_] (by rfl) (by rfl) (news_new wr #[_] _ _) (by simp [Value.oneCell']) (by unfold maxLen; omega) (by omega) ?_
        intro v' w1 happ
        refine ⟨trivial, ?_⟩
        simp only [Act.put, List.setIfInBounds_toArray, List.set_cons_zero, List.set_cons_succ]
        rw [byte_val] at happ
        obtain ⟨va, vc, rfl⟩ := own_form happ.own
        have hW1 := HW.out.more HL.out [_] 1 rfl happ
        have hbk := happ.keep.get (heap_ad HW.out.blk) hneb
        have hd1 : w1.cell? ⟨b, 0, none⟩ = some sv' := by rw [cell_of hbk]; rfl
        have hz1 : w1.frozen? ⟨b, 0, none⟩ = false := free_of hbk
        clear hbk
        have HA : Hid _ := happ
        have HW1 : Hid _ := hW1
        clear happ hW1
        repeat (first
          | (refine Txt.tl_pure (v := ?_) (by rfl) ?_ ?_; rotate_left; (focus (intro _; go_simp; try with_reducible rfl)); simp only [Act.put, List.setIfInBounds_toArray, List.set_cons_zero, List.set_cons_succ])
          | (refine Txt.tl_skip (by rfl) trivial ?_; simp only [Act.put, List.setIfInBounds_toArray, List.set_cons_zero, List.set_cons_succ])
          | (refine Txt.tl_load (v := ?_) (by rfl) (by rfl) (by rfl) (by kernel_rfl) ?_ ?_; rotate_left; (focus (first | assumption | (go_simp; done) | (go_simp; with_reducible rfl))); simp only [Act.put, List.setIfInBounds_toArray, List.set_cons_zero, List.set_cons_succ])
          | (refine Txt.tl_alloc (by rfl) ?_; go_simp; refine ⟨by (first | exact Txt.Le.alloc_drew _ _ | exact Txt.Le.alloc _ _), ?_⟩))
        refine Txt.tl_loud (by rfl) ?_
        go_simp
        refine Txt.tl_nil ?_
        have e : bs ++ cs ++ [UInt8.ofNat ((n / 256) % 256).toNat] = bs ++ be (2 - 1) (n / 256 ^ 1) := by
          rw [Hcs.out, List.append_assoc]
          simp [be, Int.ediv_ediv]
        have hW2 := HW1.out
        rw [e] at hW2
        have HW2 : Hid _ := hW2
        clear HW1 hW2 e
        go_roundw
        case rel =>
          (repeat apply Exists.intro)
          refine ⟨?_, rfl⟩
          have hk1 : Keep (fun k => k = b ∨ sv.ownBlock = some k) w (w1.setCell ⟨b, 0, none⟩ (.slice va (L + 1) vc)) := by
            refine Keep.setCell ?_ _ _ (fun _ => .inl rfl)
            refine (Hkeep.out.alloc _).drew.trans' HA.out.keep (fun _ _ h => h) (fun k hk e => ?_)
            rcases Hfr.out k e with h | h
            · exact .inr h
            · omega
          refine ⟨1, _, _, by omega, rfl, rfl, HW2.out, ?_, ?_, hk1, ?_⟩
          · exact heap_s (HA.out.keep.get (heap_ad Hloc.out) Hne.out) (by simp; omega)
          · rcases HA.out.at_ with e | e
            · rw [e]; exact Hne.out
            · rw [e]; intro e2; simp at e2; omega
          · intro k hk
            rcases HA.out.at_ with e | e
            · exact Hfr.out k (by rw [← e]; exact hk)
            · rw [e] at hk; simp at hk; omega
        case measure => simp [intOf]
    ·
      obtain rfl : j = 0 := by omega
      have hd1 : wr.cell? ⟨b, 1, none⟩ = some (.int .i64 0) := by rw [cell_of hW.blk]; rfl
      go_wp2
      refine leaves_cons (f := 72) (args := #[.pointer (some ⟨b, 0, none⟩), .pointer (some ⟨w.heap.size, 0, none⟩)]) (by simp) (by simp [go_sem]) ?_
      refine (fail_d b w.heap.size 0 0 .returning _ hd1 (by rw [cell_of hloc]; rfl) (free_of hW.blk)).mono ?_
      rintro e u' w'' ⟨rfl, rfl, rfl⟩
      refine ⟨_, results_tmp rfl _ _ _, rfl, sv', ?_, ?_, hfr⟩
      · rw [if_pos rfl]
        have e : bs ++ cs = bs ++ be 2 n := by rw [hcs]; simp
        rw [← e]
        exact ⟨by rw [block_set hW.blk]; rfl, (Keep.setCell (Keep.refl (fun k => k = b) wr) ⟨b, 1, none⟩ _ (fun _ => rfl)).row hW.own (fun k hk e => hW.ne (by rw [hk, e])), hW.ne⟩
      · rw [if_pos rfl]
        exact hkeep.setCell _ _ (fun _ => .inl rfl)
set_option maxRecDepth 100000 in
set_option maxHeartbeats 4000000 in
theorem num_ok4 (w : World) (b : Nat) (bs : List UInt8) (n : Int) (sv : Value) (h : IsW w b bs 0 sv) (hn : 0 ≤ n) (hn' : n < 256 ^ 4) (hlen : bs.length ≤ 1000000000000) :
    Calls Try.prog 46 #[.pointer (some ⟨b, 0, none⟩), .int .i64 n, .int .i64 4] w fun e w' => e = .returned (.pointer (some ⟨b, 0, none⟩)) ∧ ∃ sv', IsW w' b (bs ++ be 4 n) 0 sv' ∧ After w w' b sv sv' := by
  have hc0 : w.cell? ⟨b, 0, none⟩ = some sv := by rw [cell_of h.blk]; rfl
  have hc1 : w.cell? ⟨b, 1, none⟩ = some (.int .i64 0) := by rw [cell_of h.blk]; rfl
  have hc2 : w.cell? ⟨b, 2, none⟩ = some (.bool true) := by rw [cell_of h.blk]; rfl
  have hbl : b < w.heap.size := lt_of_block h.blk
  have hlt : n < 4294967296 := by simpa using hn'
  have hdiv : (n / 4294967296 != 0) = false := by simp; omega
  clear hn'
  go_enter_defers Try.func46, Try.ntmps46
  go_wp2_with (first | (go_at_call 71; refine (wnone _ _ _ hc2).mono ?_; rintro e w' ⟨rfl, rfl⟩) | (go_at_call 68; refine (bits_is _ 32 _ rfl).mono ?_; rintro e w' ⟨rfl, rfl⟩))
  go_loopw [8] (fun i wr => ∃ j : Nat, ∃ cs sv', j ≤ 4 ∧ i = .int .i64 (8 * j) ∧ cs = be (4 - j) (n / 256 ^ j) ∧ IsW wr b (bs ++ cs) 0 sv' ∧ wr.heap[w.heap.size]? = some (.cells #[.int .i64 0] 26 (0, 0)) ∧ sv'.ownBlock ≠ some w.heap.size ∧
      Keep (fun k => k = b ∨ sv.ownBlock = some k) w wr ∧ (∀ k, sv'.ownBlock = some k → sv.ownBlock = some k ∨ w.heap.size ≤ k)) (fun i _ => (intOf i).toNat)
  case atStart =>
    refine ⟨4, _, sv, by omega, rfl, rfl, ?_, ?_, ?_, ?_, ?_⟩
    · simp only [Nat.sub_self, be, List.append_nil]; exact h.alloc _
    · exact heap_alloc_new w _
    · intro e; have := (h.own.lt _ e).2; omega
    · exact (Keep.refl _ _).alloc _
    · intro k hk; exact .inl hk
  case round =>
    obtain ⟨j, cs, sv', hj, rfl, hcs, hW, hloc, hne, hkeep, hfr⟩ := hrel
    by_cases h0 : 0 < j
    · have : j = 1 ∨ j = 2 ∨ j = 3 ∨ j = 4 := by omega
      rcases this with rfl | rfl | rfl | rfl
      ·
        have hd0 : wr.cell? ⟨b, 0, none⟩ = some sv' := by rw [cell_of hW.blk]; rfl
        have hz : wr.frozen? ⟨b, 0, none⟩ = false := free_of hW.blk
        have hbl' : b < wr.heap.size := lt_of_block hW.blk
        have hown := hW.own
        have hneb := hW.ne
        have hll' : w.heap.size < wr.heap.size := lt_of_block hloc
        obtain ⟨L, hlz⟩ : ∃ L, L = (bs ++ cs).length := ⟨_, rfl⟩
        rw [← hlz] at hown
        have hL : L ≤ 1000000000009 := by rw [hlz, hcs]; simp [be]; omega
        have HW : Hid (IsW wr b (bs ++ cs) 0 sv') := hW
        have HL : Hid (L = (bs ++ cs).length) := hlz
        have Hcs : Hid (_ = _) := hcs
        have Hloc : Hid (_ = _) := hloc
        have Hne : Hid (_ ≠ _) := hne
        have Hkeep : Hid _ := hkeep
        have Hfr : Hid _ := hfr
        clear hW hc0 hc1 hc2 hloc hne hkeep hfr hcs hlz h
        go_wp2
        refine Txt.wp_region_text (fun _ => True) [0, 0, 0, 0, 1, 0, 0, 0, 0, 3, 4, 0, 0, 4] (by kernel_rfl) (by kernel_rfl) trivial ?_
        repeat (first
          | (refine Txt.tl_pure (v := ?_) (by rfl) ?_ ?_; rotate_left; (focus (intro _; go_simp; try with_reducible rfl)); simp only [Act.put, List.setIfInBounds_toArray, List.set_cons_zero, List.set_cons_succ])
          | (refine Txt.tl_skip (by rfl) trivial ?_; simp only [Act.put, List.setIfInBounds_toArray, List.set_cons_zero, List.set_cons_succ])
          | (refine Txt.tl_load (v := ?_) (by rfl) (by rfl) (by rfl) (by kernel_rfl) ?_ ?_; rotate_left; (focus (first | assumption | (go_simp; done) | (go_simp; with_reducible rfl))); simp only [Act.put, List.setIfInBounds_toArray, List.set_cons_zero, List.set_cons_succ])
          | (refine Txt.tl_alloc (by rfl) ?_; go_simp; refine ⟨by (first | exact Txt.Le.alloc_drew _ _ | exact Txt.Le.alloc _ _), ?_⟩))
        refine Txt.tl_loud (by rfl) ?_
        refine wp_app slU8 (by rfl) (by rfl) (xs := (bs ++ cs).map bv) (v := sv') (n := L) ((hown.alloc _).drew) [_] (by rfl) (by rfl) (news_new wr #[_] _ _) (by simp [Value.oneCell']) (by unfold maxLen; omega) (by omega) ?_
        intro v' w1 happ
        refine ⟨trivial, ?_⟩
        simp only [Act.put, List.setIfInBounds_toArray, List.set_cons_zero, List.set_cons_succ]
        rw [byte_val] at happ
        obtain ⟨va, vc, rfl⟩ := own_form happ.own
        have hW1 := HW.out.more HL.out [_] 1 rfl happ
        have hbk := happ.keep.get (heap_ad HW.out.blk) hneb
        have hd1 : w1.cell? ⟨b, 0, none⟩ = some sv' := by rw [cell_of hbk]; rfl
        have hz1 : w1.frozen? ⟨b, 0, none⟩ = false := free_of hbk
        clear hbk
        have HA : Hid _ := happ
        have HW1 : Hid _ := hW1
        clear happ hW1
        repeat (first
          | (refine Txt.tl_pure (v := ?_) (by rfl) ?_ ?_; rotate_left; (focus (intro _; go_simp; try with_reducible rfl)); simp only [Act.put, List.setIfInBounds_toArray, List.set_cons_zero, List.set_cons_succ])
          | (refine Txt.tl_skip (by rfl) trivial ?_; simp only [Act.put, List.setIfInBounds_toArray, List.set_cons_zero, List.set_cons_succ])
          | (refine Txt.tl_load (v := ?_) (by rfl) (by rfl) (by rfl) (by kernel_rfl) ?_ ?_; rotate_left; (focus (first | assumption | (go_simp; done) | (go_simp; with_reducible rfl))); simp only [Act.put, List.setIfInBounds_toArray, List.set_cons_zero, List.set_cons_succ])
          | (refine Txt.tl_alloc (by rfl) ?_; go_simp; refine ⟨by (first | exact Txt.Le.alloc_drew _ _ | exact Txt.Le.alloc _ _), ?_⟩))
        refine Txt.tl_loud (by rfl) ?_
        go_simp
        refine Txt.tl_nil ?_
        have e : bs ++ cs ++ [UInt8.ofNat (n % 256).toNat] = bs ++ be (4 - 0) (n / 256 ^ 0) := by
          rw [Hcs.out, List.append_assoc]
          simp [be, Int.ediv_ediv]
        have hW2 := HW1.out
        rw [e] at hW2
        have HW2 : Hid _ := hW2
        clear HW1 hW2 e
        go_roundw
        case rel =>
          (repeat apply Exists.intro)
          refine ⟨?_, rfl⟩
          have hk1 : Keep (fun k => k = b ∨ sv.ownBlock = some k) w (w1.setCell ⟨b, 0, none⟩ (.slice va (L + 1) vc)) := by
            refine Keep.setCell ?_ _ _ (fun _ => .inl rfl)
            refine (Hkeep.out.alloc _).drew.trans' HA.out.keep (fun _ _ h => h) (fun k hk e => ?_)
            rcases Hfr.out k e with h | h
            · exact .inr h
            · omega
          refine ⟨0, _, _, by omega, rfl, rfl, HW2.out, ?_, ?_, hk1, ?_⟩
          · exact heap_s (HA.out.keep.get (heap_ad Hloc.out) Hne.out) (by simp; omega)
          · rcases HA.out.at_ with e | e
            · rw [e]; exact Hne.out
            · rw [e]; intro e2; simp at e2; omega
          · intro k hk
            rcases HA.out.at_ with e | e
            · exact Hfr.out k (by rw [← e]; exact hk)
            · rw [e] at hk; simp at hk; omega
        case measure => simp [intOf]
      ·
        have hd0 : wr.cell? ⟨b, 0, none⟩ = some sv' := by rw [cell_of hW.blk]; rfl
        have hz : wr.frozen? ⟨b, 0, none⟩ = false := free_of hW.blk
        have hbl' : b < wr.heap.size := lt_of_block hW.blk
        have hown := hW.own
        have hneb := hW.ne
        have hll' : w.heap.size < wr.heap.size := lt_of_block hloc
        obtain ⟨L, hlz⟩ : ∃ L, L = (bs ++ cs).length := ⟨_, rfl⟩
        rw [← hlz] at hown
        have hL : L ≤ 1000000000009 := by rw [hlz, hcs]; simp [be]; omega
        have HW : Hid (IsW wr b (bs ++ cs) 0 sv') := hW
        have HL : Hid (L = (bs ++ cs).length) := hlz
        have Hcs : Hid (_ = _) := hcs
        have Hloc : Hid (_ = _) := hloc
        have Hne : Hid (_ ≠ _) := hne
        have Hkeep : Hid _ := hkeep
        have Hfr : Hid _ := hfr
        clear hW hc0 hc1 hc2 hloc hne hkeep hfr hcs hlz h
        go_wp2
        refine Txt.wp_region_text (fun _ => True) [0, 0, 0, 0, 1, 0, 0, 0, 0, 3, 4, 0, 0, 4] (by kernel_rfl) (by kernel_rfl) trivial ?_
        repeat (first
          | (refine Txt.tl_pure (v := ?_) (by rfl) ?_ ?_; rotate_left; (focus (intro _; go_simp; try with_reducible rfl)); simp only [Act.put, List.setIfInBounds_toArray, List.set_cons_zero, List.set_cons_succ])
          | (refine Txt.tl_skip (by rfl) trivial ?_; simp only [Act.put, List.setIfInBounds_toArray, List.set_cons_zero, List.set_cons_succ])
          | (refine Txt.tl_load (v := ?_) (by rfl) (by rfl) (by rfl) (by kernel_rfl) ?_ ?_; rotate_left; (focus (first | assumption | (go_simp; done) | (go_simp; with_reducible rfl))); simp only [Act.put, List.setIfInBounds_toArray, List.set_cons_zero, List.set_cons_succ])
          | (refine Txt.tl_alloc (by rfl) ?_; go_simp; refine ⟨by (first | exact Txt.Le.alloc_drew _ _ | exact Txt.Le.alloc _ _), ?_⟩))
        refine Txt.tl_loud (by rfl) ?_
        refine wp_app slU8 (by rfl) (by rfl) (xs := (bs ++ cs).map bv) (v := sv') (n := L) ((hown.alloc _).drew) [_] (by rfl) (by rfl) (news_new wr #[_] _ _) (by simp [Value.oneCell']) (by unfold maxLen; omega) (by omega) ?_
        intro v' w1 happ
        refine ⟨trivial, ?_⟩
        simp only [Act.put, List.setIfInBounds_toArray, List.set_cons_zero, List.set_cons_succ]
        rw [byte_val] at happ
        obtain ⟨va, vc, rfl⟩ := own_form happ.own
        have hW1 := HW.out.more HL.out [_] 1 rfl happ
        have hbk := happ.keep.get (heap_ad HW.out.blk) hneb
        have hd1 : w1.cell? ⟨b, 0, none⟩ = some sv' := by rw [cell_of hbk]; rfl
        have hz1 : w1.frozen? ⟨b, 0, none⟩ = false := free_of hbk
        clear hbk
        have HA : Hid _ := happ
        have HW1 : Hid _ := hW1
        clear happ hW1
        repeat (first
          | (refine Txt.tl_pure (v := ?_) (by rfl) ?_ ?_; rotate_left; (focus (intro _; go_simp; try with_reducible rfl)); simp only [Act.put, List.setIfInBounds_toArray, List.set_cons_zero, List.set_cons_succ])
          | (refine Txt.tl_skip (by rfl) trivial ?_; simp only [Act.put, List.setIfInBounds_toArray, List.set_cons_zero, List.set_cons_succ])
          | (refine Txt.tl_load (v := ?_) (by rfl) (by rfl) (by rfl) (by kernel_rfl) ?_ ?_; rotate_left; (focus (first | assumption | (go_simp; done) | (go_simp; with_reducible rfl))); simp only [Act.put, List.setIfInBounds_toArray, List.set_cons_zero, List.set_cons_succ])
          | (refine Txt.tl_alloc (by rfl) ?_; go_simp; refine ⟨by (first | exact Txt.Le.alloc_drew _ _ | exact Txt.Le.alloc _ _), ?_⟩))
        refine Txt.tl_loud (by rfl) ?_
        go_simp
        refine Txt.tl_nil ?_
        have e : bs ++ cs ++ [UInt8.ofNat ((n / 256) % 256).toNat] = bs ++ be (4 - 1) (n / 256 ^ 1) := by
          rw [Hcs.out, List.append_assoc]
          simp [be, Int.ediv_ediv]
        have hW2 := HW1.out
        rw [e] at hW2
        have HW2 : Hid _ := hW2
        clear HW1 hW2 e
        go_roundw
        case rel =>
          (repeat apply Exists.intro)
          refine ⟨?_, rfl⟩
          have hk1 : Keep (fun k => k = b ∨ sv.ownBlock = some k) w (w1.setCell ⟨b, 0, none⟩ (.slice va (L + 1) vc)) := by
            refine Keep.setCell ?_ _ _ (fun _ => .inl rfl)
            refine (Hkeep.out.alloc _).drew.trans' HA.out.keep (fun _ _ h => h) (fun k hk e => ?_)
            rcases Hfr.out k e with h | h
            · exact .inr h
            · omega
          refine ⟨1, _, _, by omega, rfl, rfl, HW2.out, ?_, ?_, hk1, ?_⟩
          · exact heap_s (HA.out.keep.get (heap_ad Hloc.out) Hne.out) (by simp; omega)
          · rcases HA.out.at_ with e | e
            · rw [e]; exact Hne.out
            · rw [e]; intro e2; simp at e2; omega
          · intro k hk
            rcases HA.out.at_ with e | e
            · exact Hfr.out k (by rw [← e]; exact hk)
            · rw [e] at hk; simp at hk; omega
        case measure => simp [intOf]
      ·
        have hd0 : wr.cell? ⟨b, 0, none⟩ = some sv' := by rw [cell_of hW.blk]; rfl
        have hz : wr.frozen? ⟨b, 0, none⟩ = false := free_of hW.blk
        have hbl' : b < wr.heap.size := lt_of_block hW.blk
        have hown := hW.own
        have hneb := hW.ne
        have hll' : w.heap.size < wr.heap.size := lt_of_block hloc
        obtain ⟨L, hlz⟩ : ∃ L, L = (bs ++ cs).length := ⟨_, rfl⟩
        rw [← hlz] at hown
        have hL : L ≤ 1000000000009 := by rw [hlz, hcs]; simp [be]; omega
        have HW : Hid (IsW wr b (bs ++ cs) 0 sv') := hW
        have HL : Hid (L = (bs ++ cs).length) := hlz
        have Hcs : Hid (_ = _) := hcs
        have Hloc : Hid (_ = _) := hloc
        have Hne : Hid (_ ≠ _) := hne
        have Hkeep : Hid _ := hkeep
        have Hfr : Hid _ := hfr
        clear hW hc0 hc1 hc2 hloc hne hkeep hfr hcs hlz h
        go_wp2
        refine Txt.wp_region_text (fun _ => True) [0, 0, 0, 0, 1, 0, 0, 0, 0, 3, 4, 0, 0, 4] (by kernel_rfl) (by kernel_rfl) trivial ?_
        repeat (first
          | (refine Txt.tl_pure (v := ?_) (by rfl) ?_ ?_; rotate_left; (focus (intro _; go_simp; try with_reducible rfl)); simp only [Act.put, List.setIfInBounds_toArray, List.set_cons_zero, List.set_cons_succ])
          | (refine Txt.tl_skip (by rfl) trivial ?_; simp only [Act.put, List.setIfInBounds_toArray, List.set_cons_zero, List.set_cons_succ])
          | (refine Txt.tl_load (v := ?_) (by rfl) (by rfl) (by rfl) (by kernel_rfl) ?_ ?_; rotate_left; (focus (first | assumption | (go_simp; done) | (go_simp; with_reducible rfl))); simp only [Act.put, List.setIfInBounds_toArray, List.set_cons_zero, List.set_cons_succ])
          | (refine Txt.tl_alloc (by rfl) ?_; go_simp; refine ⟨by (first | exact Txt.Le.alloc_drew _ _ | exact Txt.Le.alloc _ _), ?_⟩))
        refine Txt.tl_loud (by rfl) ?_
        refine wp_app slU8 (by rfl) (by rfl) (xs := (bs ++ cs).map bv) (v := sv') (n := L) ((hown.alloc _).drew) [_] (by rfl) (by rfl) (news_new wr #[_] _ _) (by simp [Value.oneCell']) (by unfold maxLen; omega) (by omega) ?_
        intro v' w1 happ
        refine ⟨trivial, ?_⟩
        simp only [Act.put, List.setIfInBounds_toArray, List.set_cons_zero, List.set_cons_succ]
        rw [byte_val] at happ
        obtain ⟨va, vc, rfl⟩ := own_form happ.own
        have hW1 := HW.out.more HL.out [_] 1 rfl happ
        have hbk := happ.keep.get (heap_ad HW.out.blk) hneb
        have hd1 : w1.cell? ⟨b, 0, none⟩ = some sv' := by rw [cell_of hbk]; rfl
        have hz1 : w1.frozen? ⟨b, 0, none⟩ = false := free_of hbk
        clear hbk
        have HA : Hid _ := happ
        have HW1 : Hid _ := hW1
        clear happ hW1
        repeat (first
          | (refine Txt.tl_pure (v := ?_) (by rfl) ?_ ?_; rotate_left; (focus (intro _; go_simp; try with_reducible rfl)); simp only [Act.put, List.setIfInBounds_toArray, List.set_cons_zero, List.set_cons_succ])
          | (refine Txt.tl_skip (by rfl) trivial ?_; simp only [Act.put, List.setIfInBounds_toArray, List.set_cons_zero, List.set_cons_succ])
          | (refine Txt.tl_load (v := ?_) (by rfl) (by rfl) (by rfl) (by kernel_rfl) ?_ ?_; rotate_left; (focus (first | assumption | (go_simp; done) | (go_simp; with_reducible rfl))); simp only [Act.put, List.setIfInBounds_toArray, List.set_cons_zero, List.set_cons_succ])
          | (refine Txt.tl_alloc (by rfl) ?_; go_simp; refine ⟨by (first | exact Txt.Le.alloc_drew _ _ | exact Txt.Le.alloc _ _), ?_⟩))
        refine Txt.tl_loud (by rfl) ?_
        go_simp
        refine Txt.tl_nil ?_
        have e : bs ++ cs ++ [UInt8.ofNat ((n / 65536) % 256).toNat] = bs ++ be (4 - 2) (n / 256 ^ 2) := by
          rw [Hcs.out, List.append_assoc]
          simp [be, Int.ediv_ediv]
        have hW2 := HW1.out
        rw [e] at hW2
        have HW2 : Hid _ := hW2
        clear HW1 hW2 e
        go_roundw
        case rel =>
          (repeat apply Exists.intro)
          refine ⟨?_, rfl⟩
          have hk1 : Keep (fun k => k = b ∨ sv.ownBlock = some k) w (w1.setCell ⟨b, 0, none⟩ (.slice va (L + 1) vc)) := by
            refine Keep.setCell ?_ _ _ (fun _ => .inl rfl)
            refine (Hkeep.out.alloc _).drew.trans' HA.out.keep (fun _ _ h => h) (fun k hk e => ?_)
            rcases Hfr.out k e with h | h
            · exact .inr h
            · omega
          refine ⟨2, _, _, by omega, rfl, rfl, HW2.out, ?_, ?_, hk1, ?_⟩
          · exact heap_s (HA.out.keep.get (heap_ad Hloc.out) Hne.out) (by simp; omega)
          · rcases HA.out.at_ with e | e
            · rw [e]; exact Hne.out
            · rw [e]; intro e2; simp at e2; omega
          · intro k hk
            rcases HA.out.at_ with e | e
            · exact Hfr.out k (by rw [← e]; exact hk)
            · rw [e] at hk; simp at hk; omega
        case measure => simp [intOf]
      ·
        have hd0 : wr.cell? ⟨b, 0, none⟩ = some sv' := by rw [cell_of hW.blk]; rfl
        have hz : wr.frozen? ⟨b, 0, none⟩ = false := free_of hW.blk
        have hbl' : b < wr.heap.size := lt_of_block hW.blk
        have hown := hW.own
        have hneb := hW.ne
        have hll' : w.heap.size < wr.heap.size := lt_of_block hloc
        obtain ⟨L, hlz⟩ : ∃ L, L = (bs ++ cs).length := ⟨_, rfl⟩
        rw [← hlz] at hown
        have hL : L ≤ 1000000000009 := by rw [hlz, hcs]; simp [be]; omega
        have HW : Hid (IsW wr b (bs ++ cs) 0 sv') := hW
        have HL : Hid (L = (bs ++ cs).length) := hlz
        have Hcs : Hid (_ = _) := hcs
        have Hloc : Hid (_ = _) := hloc
        have Hne : Hid (_ ≠ _) := hne
        have Hkeep : Hid _ := hkeep
        have Hfr : Hid _ := hfr
        clear hW hc0 hc1 hc2 hloc hne hkeep hfr hcs hlz h
        go_wp2
        refine Txt.wp_region_text (fun _ => True) [0, 0, 0, 0, 1, 0, 0, 0, 0, 3, 4, 0, 0, 4] (by kernel_rfl) (by kernel_rfl) trivial ?_
        repeat (first
          | (refine Txt.tl_pure (v := ?_) (by rfl) ?_ ?_; rotate_left; (focus (intro _; go_simp; try with_reducible rfl)); simp only [Act.put, List.setIfInBounds_toArray, List.set_cons_zero, List.set_cons_succ])
          | (refine Txt.tl_skip (by rfl) trivial ?_; simp only [Act.put, List.setIfInBounds_toArray, List.set_cons_zero, List.set_cons_succ])
          | (refine Txt.tl_load (v := ?_) (by rfl) (by rfl) (by rfl) (by kernel_rfl) ?_ ?_; rotate_left; (focus (first | assumption | (go_simp; done) | (go_simp; with_reducible rfl))); simp only [Act.put, List.setIfInBounds_toArray, List.set_cons_zero, List.set_cons_succ])
          | (refine Txt.tl_alloc (by rfl) ?_; go_simp; refine ⟨by (first | exact Txt.Le.alloc_drew _ _ | exact Txt.Le.alloc _ _), ?_⟩))
        refine Txt.tl_loud (by rfl) ?_
        refine wp_app slU8 (by rfl) (by rfl) (xs := (bs ++ cs).map bv) (v := sv') (n := L) ((hown.alloc _).drew) [_] (by rfl) (by rfl) (news_new wr #[_] _ _) (by simp [Value.oneCell']) (by unfold maxLen; omega) (by omega) ?_
        intro v' w1 happ
        refine ⟨trivial, ?_⟩
        simp only [Act.put, List.setIfInBounds_toArray, List.set_cons_zero, List.set_cons_succ]
        rw [byte_val] at happ
        obtain ⟨va, vc, rfl⟩ := own_form happ.own
        have hW1 := HW.out.more HL.out [_] 1 rfl happ
        have hbk := happ.keep.get (heap_ad HW.out.blk) hneb
        have hd1 : w1.cell? ⟨b, 0, none⟩ = some sv' := by rw [cell_of hbk]; rfl
        have hz1 : w1.frozen? ⟨b, 0, none⟩ = false := free_of hbk
        clear hbk
        have HA : Hid _ := happ
        have HW1 : Hid _ := hW1
        clear happ hW1
        repeat (first
          | (refine Txt.tl_pure (v := ?_) (by rfl) ?_ ?_; rotate_left; (focus (intro _; go_simp; try with_reducible rfl)); simp only [Act.put, List.setIfInBounds_toArray, List.set_cons_zero, List.set_cons_succ])
          | (refine Txt.tl_skip (by rfl) trivial ?_; simp only [Act.put, List.setIfInBounds_toArray, List.set_cons_zero, List.set_cons_succ])
          | (refine Txt.tl_load (v := ?_) (by rfl) (by rfl) (by rfl) (by kernel_rfl) ?_ ?_; rotate_left; (focus (first | assumption | (go_simp; done) | (go_simp; with_reducible rfl))); simp only [Act.put, List.setIfInBounds_toArray, List.set_cons_zero, List.set_cons_succ])
          | (refine Txt.tl_alloc (by rfl) ?_; go_simp; refine ⟨by (first | exact Txt.Le.alloc_drew _ _ | exact Txt.Le.alloc _ _), ?_⟩))
        refine Txt.tl_loud (by rfl) ?_
        go_simp
        refine Txt.tl_nil ?_
        have e : bs ++ cs ++ [UInt8.ofNat ((n / 16777216) % 256).toNat] = bs ++ be (4 - 3) (n / 256 ^ 3) := by
          rw [Hcs.out, List.append_assoc]
          simp [be, Int.ediv_ediv]
        have hW2 := HW1.out
        rw [e] at hW2
        have HW2 : Hid _ := hW2
        clear HW1 hW2 e
        go_roundw
        case rel =>
          (repeat apply Exists.intro)
          refine ⟨?_, rfl⟩
          have hk1 : Keep (fun k => k = b ∨ sv.ownBlock = some k) w (w1.setCell ⟨b, 0, none⟩ (.slice va (L + 1) vc)) := by
            refine Keep.setCell ?_ _ _ (fun _ => .inl rfl)
            refine (Hkeep.out.alloc _).drew.trans' HA.out.keep (fun _ _ h => h) (fun k hk e => ?_)
            rcases Hfr.out k e with h | h
            · exact .inr h
            · omega
          refine ⟨3, _, _, by omega, rfl, rfl, HW2.out, ?_, ?_, hk1, ?_⟩
          · exact heap_s (HA.out.keep.get (heap_ad Hloc.out) Hne.out) (by simp; omega)
          · rcases HA.out.at_ with e | e
            · rw [e]; exact Hne.out
            · rw [e]; intro e2; simp at e2; omega
          · intro k hk
            rcases HA.out.at_ with e | e
            · exact Hfr.out k (by rw [← e]; exact hk)
            · rw [e] at hk; simp at hk; omega
        case measure => simp [intOf]
    ·
      obtain rfl : j = 0 := by omega
      have hd1 : wr.cell? ⟨b, 1, none⟩ = some (.int .i64 0) := by rw [cell_of hW.blk]; rfl
      go_wp2
      refine leaves_cons (f := 72) (args := #[.pointer (some ⟨b, 0, none⟩), .pointer (some ⟨w.heap.size, 0, none⟩)]) (by simp) (by simp [go_sem]) ?_
      refine (fail_d b w.heap.size 0 0 .returning _ hd1 (by rw [cell_of hloc]; rfl) (free_of hW.blk)).mono ?_
      rintro e u' w'' ⟨rfl, rfl, rfl⟩
      refine ⟨_, results_tmp rfl _ _ _, rfl, sv', ?_, ?_, hfr⟩
      · rw [if_pos rfl]
        have e : bs ++ cs = bs ++ be 4 n := by rw [hcs]; simp
        rw [← e]
        exact ⟨by rw [block_set hW.blk]; rfl, (Keep.setCell (Keep.refl (fun k => k = b) wr) ⟨b, 1, none⟩ _ (fun _ => rfl)).row hW.own (fun k hk e => hW.ne (by rw [hk, e])), hW.ne⟩
      · rw [if_pos rfl]
        exact hkeep.setCell _ _ (fun _ => .inl rfl)
end Oct
end Go.Proofs.Ytmnmemeldjbifaa
