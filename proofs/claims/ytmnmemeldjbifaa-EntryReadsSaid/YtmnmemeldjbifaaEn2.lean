/-
  entry.Check.
-/
import Derived.Test.YtmnmemeldjbifaaEn1
import Derived.Test.YtmnmemeldjbifaaMsg2
set_option linter.unusedVariables false
set_option linter.unusedSimpArgs false
namespace Go.Proofs.Ytmnmemeldjbifaa
open Go.RowKit
namespace En
open Oct Ids Ms
open Tp (tk)

/-- The cells of an entry. -/
def ec (K : Int) (T B : ByteArray) (c : List UInt8) : List Value := [.int .i64 K, .string T, .string B] ++ c.map bv
/-- An entry in memory. -/
structure EAt (w : World) (b : Nat) (K : Int) (T B : ByteArray) (c : List UInt8) : Prop where
  blk : w.heap[b]? = some (.cells (ec K T B c).toArray 43 (0, 0))
  len : c.length = 32
section
variable {w : World} {b : Nat} {K : Int} {T B : ByteArray} {c : List UInt8}
theorem EAt.keep (h : EAt w b K T B c) {w' : World} {S : Nat → Prop} (k : Keep S w w') (hn : ¬ S b) : EAt w' b K T B c := ⟨k.get h.blk hn, h.len⟩
theorem EAt.calm (h : EAt w b K T B c) {w' : World} (k : Keep (fun _ => False) w w') : EAt w' b K T B c := h.keep k (fun h => h)
theorem EAt.cells (h : EAt w b K T B c) : w.cell? ⟨b, 0, none⟩ = some (.int .i64 K) ∧ w.cell? ⟨b, 1, none⟩ = some (.string T) ∧ w.cell? ⟨b, 2, none⟩ = some (.string B) :=
  ⟨by rw [cell_of h.blk]; rfl, by rw [cell_of h.blk]; rfl, by rw [cell_of h.blk]; rfl⟩
theorem EAt.commit (h : EAt w b K T B c) : w.rangeAt b 3 (c.map bv) := fun j v hj => by
  rw [cell_of h.blk, List.getElem?_toArray]
  unfold ec
  rw [List.getElem?_append_right (by simp)]
  simpa using hj
theorem EAt.all (h : EAt w b K T B c) : w.rangeAt b 0 (ec K T B c) := fun j v hj => by
  rw [Nat.zero_add, cell_of h.blk, List.getElem?_toArray]
  exact hj
theorem EAt.new (w : World) (hc : c.length = 32) : EAt (w.alloc (.cells (ec K T B c).toArray 43)) w.heap.size K T B c := ⟨heap_alloc_new w _, hc⟩
end
section
variable {ops : Array Oper} {rest : List Oper} {op : Oper} {a : Act} {w : World} {Q : Exit → Act → World → Prop}
/-- 'load an id', guarded or not. -/
theorem wl_loadG (hw : Region.wanted op (yielded ops a.tmps) = true) {x : Operand} (ho : op.op = .load 41 x) {b o : Nat} (hx : a.eval x = .pointer (some ⟨b, o, none⟩)) {l : List UInt8} (hl : l.length = 32) (hr : w.rangeAt b o (l.map bv))
    (h : wpList Try.prog ops Q rest (a.put op.dst (idv l)) w) : wpList Try.prog ops Q (op :: rest) a w :=
  wpList_step fun K hK => by
    rw [if_pos hw]
    exact wp_load_mid _ x ho b o hx (l.map bv) _ hr Try.underlying41 rfl (by rw [info32, List.length_map, hl]) (hK _ _ h)
end
def Z32 : List UInt8 := List.replicate 32 0
/-- What 'Check' answers. -/
def ck (K : Int) (T B : ByteArray) (c : List UInt8) : Int :=
  if K < 1 ∨ 7 < K then 10
  else if (pT K = false ∧ T.size ≠ 0) ∨ (pC K = false ∧ c ≠ Z32) ∨ (pB K = 0 ∧ B.size ≠ 0) then 4
  else if pT K = true ∧ tk T = 0 then 9
  else if 0 < pB K ∧ B.size = 0 ∧ pE K = false then 4
  else if pB K < (B.size : Int) then 3 else 0
set_option maxRecDepth 100000 in
theorem check_none (w : World) (K : Int) (T B : ByteArray) (c : List UInt8) (hc : c.length = 32) (hK : K < 1 ∨ 7 < K) :
    Calls Try.prog 23 #[.agg (ec K T B c).toArray] w fun e w' => e = .returned (.int .i64 10) ∧ Keep (fun _ => False) w w' := by
  have E0 : Hid _ := EAt.new (K := K) (T := T) (B := B) w hc
  obtain ⟨X, hX⟩ : ∃ X, (ec K T B c).toArray = X := ⟨_, rfl⟩
  rw [hX] at E0 ⊢
  obtain ⟨g0, g1, g2⟩ := E0.out.cells
  clear hX
  go_enter Try.func23, Try.ntmps23
  go_wp2_with (first | (go_at_call 57; refine (of_none _ _ hK).mono ?_; rintro e w1 ⟨rfl, k1⟩; have K1 : Hid _ := k1; clear k1))
  go_ret
  exact ⟨rfl, (((Keep.refl _ _).alloc _).trans K1.out).alloc _⟩
theorem neq_z (c : List UInt8) (hc : c.length = 32) (v : Bool) (hv : (!(c == Z32)) = v) : ∀ w, Sem.run Try.prog (binOp .neq 41 (idv c) (.agg z32)) w = .ok (.bool v) w := fun w => hv ▸ neq_id w c Z32 hc rfl
theorem ne_zf {c : List UInt8} (h : c = Z32) : (!(c == Z32)) = false := by subst h; rfl
theorem ne_zt {c : List UInt8} (h : ¬ c = Z32) : (!(c == Z32)) = true := by simpa using h
set_option maxRecDepth 100000 in
set_option maxHeartbeats 2000000 in
theorem check_1 (w : World) (T B : ByteArray) (c : List UInt8) (hc : c.length = 32) (hT : T.size ≤ maxLen) (hB : B.size ≤ maxLen) :
    Calls Try.prog 23 #[.agg (ec 1 T B c).toArray] w fun e w' => e = .returned (.int .i64 (ck 1 T B c)) ∧ Keep (fun _ => False) w w' := by
  unfold maxLen at hB
  by_cases ht : T.size = 0
  · obtain rfl := empty_of ht
    by_cases hz : c = Z32
    · have hcmp := neq_z c hc _ (ne_zf hz)
      by_cases hb : B.size = 0
      · obtain rfl := empty_of hb
        have e : ck 1 ByteArray.empty ByteArray.empty c = 4 := by simp [ck, pT, pC, pB, pE, ht, hz, hb]; try omega
        rw [e]
        have Hc : Hid _ := hc
        have hgd := guard_id
        have E0 : Hid _ := EAt.new (K := 1) (T := ByteArray.empty) (B := ByteArray.empty) w hc
        generalize hX : (ec 1 ByteArray.empty ByteArray.empty c).toArray = X at E0 ⊢
        obtain ⟨g0, g1, g2⟩ := E0.out.cells
        have Hr : Hid _ := E0.out.commit
        clear e hX hc
        try clear hz
        go_enter Try.func23, Try.ntmps23
        go_wp2_with (first | (go_at_call 57; refine (of_any _ 1 (by decide)).mono ?_; rw [show pT 1 = false from rfl, show pC 1 = false from rfl, show pB 1 = 256 from rfl, show pE 1 = false from rfl]; rintro e w1 ⟨rfl, k1⟩; have E1 : Hid _ := (E0.out.calm k1).calm ((Keep.refl (fun _ => False) w1).alloc (.cells #[.bool false, .bool false, .int .i64 256, .bool false] 91)); have HK : Hid _ := (((Keep.refl (fun _ => False) w).alloc _).trans k1).alloc (.cells #[.bool false, .bool false, .int .i64 256, .bool false] 91); have HPp : Hid _ := heap_alloc_new w1 (.cells #[.bool false, .bool false, .int .i64 256, .bool false] 91); obtain ⟨g0, g1, g2⟩ := E1.out.cells; have Hr : Hid _ := E1.out.commit; clear k1) | (refine wl_loadG (by rfl) rfl rfl Hc.out Hr.out ?_; simp only [Act.put, List.setIfInBounds_toArray, List.set_cons_zero, List.set_cons_succ]) | (go_at_call 60; refine (Tp.check_any _ _ hT _ Hv.out).mono ?_; rintro e w2 ⟨rfl, k1⟩; have q := k1.get HPp.out (fun h => h); have p0 : w2.cell? ⟨w1.heap.size, 0, none⟩ = some (.bool false) := (by rw [cell_of q]; rfl); have p1 : w2.cell? ⟨w1.heap.size, 1, none⟩ = some (.bool false) := (by rw [cell_of q]; rfl); have p2 : w2.cell? ⟨w1.heap.size, 2, none⟩ = some (.int .i64 256) := (by rw [cell_of q]; rfl); have p3 : w2.cell? ⟨w1.heap.size, 3, none⟩ = some (.bool false) := (by rw [cell_of q]; rfl); clear q; have HK : Hid _ := HK.out.trans k1; have E1 : Hid _ := E1.out.calm k1; obtain ⟨g0, g1, g2⟩ := E1.out.cells; have Hr : Hid _ := E1.out.commit; clear k1))
        all_goals
          go_ret
          exact ⟨rfl, HK.out⟩
      · have hb1 := list_ne hb
        have hb2 := list_ne2 hb
        by_cases hm : 256 < B.size
        · skip
          have e : ck 1 ByteArray.empty B c = 3 := by simp [ck, pT, pC, pB, pE, ht, hz, hb, hm]; try omega
          rw [e]
          have Hc : Hid _ := hc
          have hgd := guard_id
          have E0 : Hid _ := EAt.new (K := 1) (T := ByteArray.empty) (B := B) w hc
          generalize hX : (ec 1 ByteArray.empty B c).toArray = X at E0 ⊢
          obtain ⟨g0, g1, g2⟩ := E0.out.cells
          have Hr : Hid _ := E0.out.commit
          clear e hX hc
          try clear hz
          go_enter Try.func23, Try.ntmps23
          go_wp2_with (first | (go_at_call 57; refine (of_any _ 1 (by decide)).mono ?_; rw [show pT 1 = false from rfl, show pC 1 = false from rfl, show pB 1 = 256 from rfl, show pE 1 = false from rfl]; rintro e w1 ⟨rfl, k1⟩; have E1 : Hid _ := (E0.out.calm k1).calm ((Keep.refl (fun _ => False) w1).alloc (.cells #[.bool false, .bool false, .int .i64 256, .bool false] 91)); have HK : Hid _ := (((Keep.refl (fun _ => False) w).alloc _).trans k1).alloc (.cells #[.bool false, .bool false, .int .i64 256, .bool false] 91); have HPp : Hid _ := heap_alloc_new w1 (.cells #[.bool false, .bool false, .int .i64 256, .bool false] 91); obtain ⟨g0, g1, g2⟩ := E1.out.cells; have Hr : Hid _ := E1.out.commit; clear k1) | (refine wl_loadG (by rfl) rfl rfl Hc.out Hr.out ?_; simp only [Act.put, List.setIfInBounds_toArray, List.set_cons_zero, List.set_cons_succ]) | (go_at_call 60; refine (Tp.check_any _ _ hT _ Hv.out).mono ?_; rintro e w2 ⟨rfl, k1⟩; have q := k1.get HPp.out (fun h => h); have p0 : w2.cell? ⟨w1.heap.size, 0, none⟩ = some (.bool false) := (by rw [cell_of q]; rfl); have p1 : w2.cell? ⟨w1.heap.size, 1, none⟩ = some (.bool false) := (by rw [cell_of q]; rfl); have p2 : w2.cell? ⟨w1.heap.size, 2, none⟩ = some (.int .i64 256) := (by rw [cell_of q]; rfl); have p3 : w2.cell? ⟨w1.heap.size, 3, none⟩ = some (.bool false) := (by rw [cell_of q]; rfl); clear q; have HK : Hid _ := HK.out.trans k1; have E1 : Hid _ := E1.out.calm k1; obtain ⟨g0, g1, g2⟩ := E1.out.cells; have Hr : Hid _ := E1.out.commit; clear k1))
          all_goals
            go_ret
            exact ⟨rfl, HK.out⟩
        · skip
          have e : ck 1 ByteArray.empty B c = 0 := by simp [ck, pT, pC, pB, pE, ht, hz, hb, hm]; try omega
          rw [e]
          have Hc : Hid _ := hc
          have hgd := guard_id
          have E0 : Hid _ := EAt.new (K := 1) (T := ByteArray.empty) (B := B) w hc
          generalize hX : (ec 1 ByteArray.empty B c).toArray = X at E0 ⊢
          obtain ⟨g0, g1, g2⟩ := E0.out.cells
          have Hr : Hid _ := E0.out.commit
          clear e hX hc
          try clear hz
          go_enter Try.func23, Try.ntmps23
          go_wp2_with (first | (go_at_call 57; refine (of_any _ 1 (by decide)).mono ?_; rw [show pT 1 = false from rfl, show pC 1 = false from rfl, show pB 1 = 256 from rfl, show pE 1 = false from rfl]; rintro e w1 ⟨rfl, k1⟩; have E1 : Hid _ := (E0.out.calm k1).calm ((Keep.refl (fun _ => False) w1).alloc (.cells #[.bool false, .bool false, .int .i64 256, .bool false] 91)); have HK : Hid _ := (((Keep.refl (fun _ => False) w).alloc _).trans k1).alloc (.cells #[.bool false, .bool false, .int .i64 256, .bool false] 91); have HPp : Hid _ := heap_alloc_new w1 (.cells #[.bool false, .bool false, .int .i64 256, .bool false] 91); obtain ⟨g0, g1, g2⟩ := E1.out.cells; have Hr : Hid _ := E1.out.commit; clear k1) | (refine wl_loadG (by rfl) rfl rfl Hc.out Hr.out ?_; simp only [Act.put, List.setIfInBounds_toArray, List.set_cons_zero, List.set_cons_succ]) | (go_at_call 60; refine (Tp.check_any _ _ hT _ Hv.out).mono ?_; rintro e w2 ⟨rfl, k1⟩; have q := k1.get HPp.out (fun h => h); have p0 : w2.cell? ⟨w1.heap.size, 0, none⟩ = some (.bool false) := (by rw [cell_of q]; rfl); have p1 : w2.cell? ⟨w1.heap.size, 1, none⟩ = some (.bool false) := (by rw [cell_of q]; rfl); have p2 : w2.cell? ⟨w1.heap.size, 2, none⟩ = some (.int .i64 256) := (by rw [cell_of q]; rfl); have p3 : w2.cell? ⟨w1.heap.size, 3, none⟩ = some (.bool false) := (by rw [cell_of q]; rfl); clear q; have HK : Hid _ := HK.out.trans k1; have E1 : Hid _ := E1.out.calm k1; obtain ⟨g0, g1, g2⟩ := E1.out.cells; have Hr : Hid _ := E1.out.commit; clear k1))
          all_goals
            go_ret
            exact ⟨rfl, HK.out⟩
    · have hcmp := neq_z c hc _ (ne_zt hz)
      have e : ck 1 ByteArray.empty B c = 4 := by simp [ck, pT, pC, pB, pE, ht, hz]; try omega
      rw [e]
      have Hc : Hid _ := hc
      have hgd := guard_id
      have E0 : Hid _ := EAt.new (K := 1) (T := ByteArray.empty) (B := B) w hc
      generalize hX : (ec 1 ByteArray.empty B c).toArray = X at E0 ⊢
      obtain ⟨g0, g1, g2⟩ := E0.out.cells
      have Hr : Hid _ := E0.out.commit
      clear e hX hc
      try clear hz
      go_enter Try.func23, Try.ntmps23
      go_wp2_with (first | (go_at_call 57; refine (of_any _ 1 (by decide)).mono ?_; rw [show pT 1 = false from rfl, show pC 1 = false from rfl, show pB 1 = 256 from rfl, show pE 1 = false from rfl]; rintro e w1 ⟨rfl, k1⟩; have E1 : Hid _ := (E0.out.calm k1).calm ((Keep.refl (fun _ => False) w1).alloc (.cells #[.bool false, .bool false, .int .i64 256, .bool false] 91)); have HK : Hid _ := (((Keep.refl (fun _ => False) w).alloc _).trans k1).alloc (.cells #[.bool false, .bool false, .int .i64 256, .bool false] 91); have HPp : Hid _ := heap_alloc_new w1 (.cells #[.bool false, .bool false, .int .i64 256, .bool false] 91); obtain ⟨g0, g1, g2⟩ := E1.out.cells; have Hr : Hid _ := E1.out.commit; clear k1) | (refine wl_loadG (by rfl) rfl rfl Hc.out Hr.out ?_; simp only [Act.put, List.setIfInBounds_toArray, List.set_cons_zero, List.set_cons_succ]) | (go_at_call 60; refine (Tp.check_any _ _ hT _ Hv.out).mono ?_; rintro e w2 ⟨rfl, k1⟩; have q := k1.get HPp.out (fun h => h); have p0 : w2.cell? ⟨w1.heap.size, 0, none⟩ = some (.bool false) := (by rw [cell_of q]; rfl); have p1 : w2.cell? ⟨w1.heap.size, 1, none⟩ = some (.bool false) := (by rw [cell_of q]; rfl); have p2 : w2.cell? ⟨w1.heap.size, 2, none⟩ = some (.int .i64 256) := (by rw [cell_of q]; rfl); have p3 : w2.cell? ⟨w1.heap.size, 3, none⟩ = some (.bool false) := (by rw [cell_of q]; rfl); clear q; have HK : Hid _ := HK.out.trans k1; have E1 : Hid _ := E1.out.calm k1; obtain ⟨g0, g1, g2⟩ := E1.out.cells; have Hr : Hid _ := E1.out.commit; clear k1))
      all_goals
        go_ret
        exact ⟨rfl, HK.out⟩
  · have ht1 := list_ne ht
    have ht2 := list_ne2 ht
    have e : ck 1 T B c = 4 := by simp [ck, pT, pC, pB, pE, ht]; try omega
    rw [e]
    have Hc : Hid _ := hc
    have hgd := guard_id
    have E0 : Hid _ := EAt.new (K := 1) (T := T) (B := B) w hc
    generalize hX : (ec 1 T B c).toArray = X at E0 ⊢
    obtain ⟨g0, g1, g2⟩ := E0.out.cells
    have Hr : Hid _ := E0.out.commit
    clear e hX hc
    try clear hz
    go_enter Try.func23, Try.ntmps23
    go_wp2_with (first | (go_at_call 57; refine (of_any _ 1 (by decide)).mono ?_; rw [show pT 1 = false from rfl, show pC 1 = false from rfl, show pB 1 = 256 from rfl, show pE 1 = false from rfl]; rintro e w1 ⟨rfl, k1⟩; have E1 : Hid _ := (E0.out.calm k1).calm ((Keep.refl (fun _ => False) w1).alloc (.cells #[.bool false, .bool false, .int .i64 256, .bool false] 91)); have HK : Hid _ := (((Keep.refl (fun _ => False) w).alloc _).trans k1).alloc (.cells #[.bool false, .bool false, .int .i64 256, .bool false] 91); have HPp : Hid _ := heap_alloc_new w1 (.cells #[.bool false, .bool false, .int .i64 256, .bool false] 91); obtain ⟨g0, g1, g2⟩ := E1.out.cells; have Hr : Hid _ := E1.out.commit; clear k1) | (refine wl_loadG (by rfl) rfl rfl Hc.out Hr.out ?_; simp only [Act.put, List.setIfInBounds_toArray, List.set_cons_zero, List.set_cons_succ]) | (go_at_call 60; refine (Tp.check_any _ _ hT _ Hv.out).mono ?_; rintro e w2 ⟨rfl, k1⟩; have q := k1.get HPp.out (fun h => h); have p0 : w2.cell? ⟨w1.heap.size, 0, none⟩ = some (.bool false) := (by rw [cell_of q]; rfl); have p1 : w2.cell? ⟨w1.heap.size, 1, none⟩ = some (.bool false) := (by rw [cell_of q]; rfl); have p2 : w2.cell? ⟨w1.heap.size, 2, none⟩ = some (.int .i64 256) := (by rw [cell_of q]; rfl); have p3 : w2.cell? ⟨w1.heap.size, 3, none⟩ = some (.bool false) := (by rw [cell_of q]; rfl); clear q; have HK : Hid _ := HK.out.trans k1; have E1 : Hid _ := E1.out.calm k1; obtain ⟨g0, g1, g2⟩ := E1.out.cells; have Hr : Hid _ := E1.out.commit; clear k1))
    all_goals
      go_ret
      exact ⟨rfl, HK.out⟩
set_option maxRecDepth 100000 in
set_option maxHeartbeats 2000000 in
theorem check_2 (w : World) (T B : ByteArray) (c : List UInt8) (hc : c.length = 32) (hT : T.size ≤ maxLen) (hB : B.size ≤ maxLen) :
    Calls Try.prog 23 #[.agg (ec 2 T B c).toArray] w fun e w' => e = .returned (.int .i64 (ck 2 T B c)) ∧ Keep (fun _ => False) w w' := by
  unfold maxLen at hB
  by_cases ht : T.size = 0
  · obtain rfl := empty_of ht
    by_cases hz : c = Z32
    · have hcmp := neq_z c hc _ (ne_zf hz)
      by_cases hb : B.size = 0
      · obtain rfl := empty_of hb
        have e : ck 2 ByteArray.empty ByteArray.empty c = 4 := by simp [ck, pT, pC, pB, pE, ht, hz, hb]; try omega
        rw [e]
        have Hc : Hid _ := hc
        have hgd := guard_id
        have E0 : Hid _ := EAt.new (K := 2) (T := ByteArray.empty) (B := ByteArray.empty) w hc
        generalize hX : (ec 2 ByteArray.empty ByteArray.empty c).toArray = X at E0 ⊢
        obtain ⟨g0, g1, g2⟩ := E0.out.cells
        have Hr : Hid _ := E0.out.commit
        clear e hX hc
        try clear hz
        go_enter Try.func23, Try.ntmps23
        go_wp2_with (first | (go_at_call 57; refine (of_any _ 2 (by decide)).mono ?_; rw [show pT 2 = false from rfl, show pC 2 = false from rfl, show pB 2 = 256 from rfl, show pE 2 = false from rfl]; rintro e w1 ⟨rfl, k1⟩; have E1 : Hid _ := (E0.out.calm k1).calm ((Keep.refl (fun _ => False) w1).alloc (.cells #[.bool false, .bool false, .int .i64 256, .bool false] 91)); have HK : Hid _ := (((Keep.refl (fun _ => False) w).alloc _).trans k1).alloc (.cells #[.bool false, .bool false, .int .i64 256, .bool false] 91); have HPp : Hid _ := heap_alloc_new w1 (.cells #[.bool false, .bool false, .int .i64 256, .bool false] 91); obtain ⟨g0, g1, g2⟩ := E1.out.cells; have Hr : Hid _ := E1.out.commit; clear k1) | (refine wl_loadG (by rfl) rfl rfl Hc.out Hr.out ?_; simp only [Act.put, List.setIfInBounds_toArray, List.set_cons_zero, List.set_cons_succ]) | (go_at_call 60; refine (Tp.check_any _ _ hT _ Hv.out).mono ?_; rintro e w2 ⟨rfl, k1⟩; have q := k1.get HPp.out (fun h => h); have p0 : w2.cell? ⟨w1.heap.size, 0, none⟩ = some (.bool false) := (by rw [cell_of q]; rfl); have p1 : w2.cell? ⟨w1.heap.size, 1, none⟩ = some (.bool false) := (by rw [cell_of q]; rfl); have p2 : w2.cell? ⟨w1.heap.size, 2, none⟩ = some (.int .i64 256) := (by rw [cell_of q]; rfl); have p3 : w2.cell? ⟨w1.heap.size, 3, none⟩ = some (.bool false) := (by rw [cell_of q]; rfl); clear q; have HK : Hid _ := HK.out.trans k1; have E1 : Hid _ := E1.out.calm k1; obtain ⟨g0, g1, g2⟩ := E1.out.cells; have Hr : Hid _ := E1.out.commit; clear k1))
        all_goals
          go_ret
          exact ⟨rfl, HK.out⟩
      · have hb1 := list_ne hb
        have hb2 := list_ne2 hb
        by_cases hm : 256 < B.size
        · skip
          have e : ck 2 ByteArray.empty B c = 3 := by simp [ck, pT, pC, pB, pE, ht, hz, hb, hm]; try omega
          rw [e]
          have Hc : Hid _ := hc
          have hgd := guard_id
          have E0 : Hid _ := EAt.new (K := 2) (T := ByteArray.empty) (B := B) w hc
          generalize hX : (ec 2 ByteArray.empty B c).toArray = X at E0 ⊢
          obtain ⟨g0, g1, g2⟩ := E0.out.cells
          have Hr : Hid _ := E0.out.commit
          clear e hX hc
          try clear hz
          go_enter Try.func23, Try.ntmps23
          go_wp2_with (first | (go_at_call 57; refine (of_any _ 2 (by decide)).mono ?_; rw [show pT 2 = false from rfl, show pC 2 = false from rfl, show pB 2 = 256 from rfl, show pE 2 = false from rfl]; rintro e w1 ⟨rfl, k1⟩; have E1 : Hid _ := (E0.out.calm k1).calm ((Keep.refl (fun _ => False) w1).alloc (.cells #[.bool false, .bool false, .int .i64 256, .bool false] 91)); have HK : Hid _ := (((Keep.refl (fun _ => False) w).alloc _).trans k1).alloc (.cells #[.bool false, .bool false, .int .i64 256, .bool false] 91); have HPp : Hid _ := heap_alloc_new w1 (.cells #[.bool false, .bool false, .int .i64 256, .bool false] 91); obtain ⟨g0, g1, g2⟩ := E1.out.cells; have Hr : Hid _ := E1.out.commit; clear k1) | (refine wl_loadG (by rfl) rfl rfl Hc.out Hr.out ?_; simp only [Act.put, List.setIfInBounds_toArray, List.set_cons_zero, List.set_cons_succ]) | (go_at_call 60; refine (Tp.check_any _ _ hT _ Hv.out).mono ?_; rintro e w2 ⟨rfl, k1⟩; have q := k1.get HPp.out (fun h => h); have p0 : w2.cell? ⟨w1.heap.size, 0, none⟩ = some (.bool false) := (by rw [cell_of q]; rfl); have p1 : w2.cell? ⟨w1.heap.size, 1, none⟩ = some (.bool false) := (by rw [cell_of q]; rfl); have p2 : w2.cell? ⟨w1.heap.size, 2, none⟩ = some (.int .i64 256) := (by rw [cell_of q]; rfl); have p3 : w2.cell? ⟨w1.heap.size, 3, none⟩ = some (.bool false) := (by rw [cell_of q]; rfl); clear q; have HK : Hid _ := HK.out.trans k1; have E1 : Hid _ := E1.out.calm k1; obtain ⟨g0, g1, g2⟩ := E1.out.cells; have Hr : Hid _ := E1.out.commit; clear k1))
          all_goals
            go_ret
            exact ⟨rfl, HK.out⟩
        · skip
          have e : ck 2 ByteArray.empty B c = 0 := by simp [ck, pT, pC, pB, pE, ht, hz, hb, hm]; try omega
          rw [e]
          have Hc : Hid _ := hc
          have hgd := guard_id
          have E0 : Hid _ := EAt.new (K := 2) (T := ByteArray.empty) (B := B) w hc
          generalize hX : (ec 2 ByteArray.empty B c).toArray = X at E0 ⊢
          obtain ⟨g0, g1, g2⟩ := E0.out.cells
          have Hr : Hid _ := E0.out.commit
          clear e hX hc
          try clear hz
          go_enter Try.func23, Try.ntmps23
          go_wp2_with (first | (go_at_call 57; refine (of_any _ 2 (by decide)).mono ?_; rw [show pT 2 = false from rfl, show pC 2 = false from rfl, show pB 2 = 256 from rfl, show pE 2 = false from rfl]; rintro e w1 ⟨rfl, k1⟩; have E1 : Hid _ := (E0.out.calm k1).calm ((Keep.refl (fun _ => False) w1).alloc (.cells #[.bool false, .bool false, .int .i64 256, .bool false] 91)); have HK : Hid _ := (((Keep.refl (fun _ => False) w).alloc _).trans k1).alloc (.cells #[.bool false, .bool false, .int .i64 256, .bool false] 91); have HPp : Hid _ := heap_alloc_new w1 (.cells #[.bool false, .bool false, .int .i64 256, .bool false] 91); obtain ⟨g0, g1, g2⟩ := E1.out.cells; have Hr : Hid _ := E1.out.commit; clear k1) | (refine wl_loadG (by rfl) rfl rfl Hc.out Hr.out ?_; simp only [Act.put, List.setIfInBounds_toArray, List.set_cons_zero, List.set_cons_succ]) | (go_at_call 60; refine (Tp.check_any _ _ hT _ Hv.out).mono ?_; rintro e w2 ⟨rfl, k1⟩; have q := k1.get HPp.out (fun h => h); have p0 : w2.cell? ⟨w1.heap.size, 0, none⟩ = some (.bool false) := (by rw [cell_of q]; rfl); have p1 : w2.cell? ⟨w1.heap.size, 1, none⟩ = some (.bool false) := (by rw [cell_of q]; rfl); have p2 : w2.cell? ⟨w1.heap.size, 2, none⟩ = some (.int .i64 256) := (by rw [cell_of q]; rfl); have p3 : w2.cell? ⟨w1.heap.size, 3, none⟩ = some (.bool false) := (by rw [cell_of q]; rfl); clear q; have HK : Hid _ := HK.out.trans k1; have E1 : Hid _ := E1.out.calm k1; obtain ⟨g0, g1, g2⟩ := E1.out.cells; have Hr : Hid _ := E1.out.commit; clear k1))
          all_goals
            go_ret
            exact ⟨rfl, HK.out⟩
    · have hcmp := neq_z c hc _ (ne_zt hz)
      have e : ck 2 ByteArray.empty B c = 4 := by simp [ck, pT, pC, pB, pE, ht, hz]; try omega
      rw [e]
      have Hc : Hid _ := hc
      have hgd := guard_id
      have E0 : Hid _ := EAt.new (K := 2) (T := ByteArray.empty) (B := B) w hc
      generalize hX : (ec 2 ByteArray.empty B c).toArray = X at E0 ⊢
      obtain ⟨g0, g1, g2⟩ := E0.out.cells
      have Hr : Hid _ := E0.out.commit
      clear e hX hc
      try clear hz
      go_enter Try.func23, Try.ntmps23
      go_wp2_with (first | (go_at_call 57; refine (of_any _ 2 (by decide)).mono ?_; rw [show pT 2 = false from rfl, show pC 2 = false from rfl, show pB 2 = 256 from rfl, show pE 2 = false from rfl]; rintro e w1 ⟨rfl, k1⟩; have E1 : Hid _ := (E0.out.calm k1).calm ((Keep.refl (fun _ => False) w1).alloc (.cells #[.bool false, .bool false, .int .i64 256, .bool false] 91)); have HK : Hid _ := (((Keep.refl (fun _ => False) w).alloc _).trans k1).alloc (.cells #[.bool false, .bool false, .int .i64 256, .bool false] 91); have HPp : Hid _ := heap_alloc_new w1 (.cells #[.bool false, .bool false, .int .i64 256, .bool false] 91); obtain ⟨g0, g1, g2⟩ := E1.out.cells; have Hr : Hid _ := E1.out.commit; clear k1) | (refine wl_loadG (by rfl) rfl rfl Hc.out Hr.out ?_; simp only [Act.put, List.setIfInBounds_toArray, List.set_cons_zero, List.set_cons_succ]) | (go_at_call 60; refine (Tp.check_any _ _ hT _ Hv.out).mono ?_; rintro e w2 ⟨rfl, k1⟩; have q := k1.get HPp.out (fun h => h); have p0 : w2.cell? ⟨w1.heap.size, 0, none⟩ = some (.bool false) := (by rw [cell_of q]; rfl); have p1 : w2.cell? ⟨w1.heap.size, 1, none⟩ = some (.bool false) := (by rw [cell_of q]; rfl); have p2 : w2.cell? ⟨w1.heap.size, 2, none⟩ = some (.int .i64 256) := (by rw [cell_of q]; rfl); have p3 : w2.cell? ⟨w1.heap.size, 3, none⟩ = some (.bool false) := (by rw [cell_of q]; rfl); clear q; have HK : Hid _ := HK.out.trans k1; have E1 : Hid _ := E1.out.calm k1; obtain ⟨g0, g1, g2⟩ := E1.out.cells; have Hr : Hid _ := E1.out.commit; clear k1))
      all_goals
        go_ret
        exact ⟨rfl, HK.out⟩
  · have ht1 := list_ne ht
    have ht2 := list_ne2 ht
    have e : ck 2 T B c = 4 := by simp [ck, pT, pC, pB, pE, ht]; try omega
    rw [e]
    have Hc : Hid _ := hc
    have hgd := guard_id
    have E0 : Hid _ := EAt.new (K := 2) (T := T) (B := B) w hc
    generalize hX : (ec 2 T B c).toArray = X at E0 ⊢
    obtain ⟨g0, g1, g2⟩ := E0.out.cells
    have Hr : Hid _ := E0.out.commit
    clear e hX hc
    try clear hz
    go_enter Try.func23, Try.ntmps23
    go_wp2_with (first | (go_at_call 57; refine (of_any _ 2 (by decide)).mono ?_; rw [show pT 2 = false from rfl, show pC 2 = false from rfl, show pB 2 = 256 from rfl, show pE 2 = false from rfl]; rintro e w1 ⟨rfl, k1⟩; have E1 : Hid _ := (E0.out.calm k1).calm ((Keep.refl (fun _ => False) w1).alloc (.cells #[.bool false, .bool false, .int .i64 256, .bool false] 91)); have HK : Hid _ := (((Keep.refl (fun _ => False) w).alloc _).trans k1).alloc (.cells #[.bool false, .bool false, .int .i64 256, .bool false] 91); have HPp : Hid _ := heap_alloc_new w1 (.cells #[.bool false, .bool false, .int .i64 256, .bool false] 91); obtain ⟨g0, g1, g2⟩ := E1.out.cells; have Hr : Hid _ := E1.out.commit; clear k1) | (refine wl_loadG (by rfl) rfl rfl Hc.out Hr.out ?_; simp only [Act.put, List.setIfInBounds_toArray, List.set_cons_zero, List.set_cons_succ]) | (go_at_call 60; refine (Tp.check_any _ _ hT _ Hv.out).mono ?_; rintro e w2 ⟨rfl, k1⟩; have q := k1.get HPp.out (fun h => h); have p0 : w2.cell? ⟨w1.heap.size, 0, none⟩ = some (.bool false) := (by rw [cell_of q]; rfl); have p1 : w2.cell? ⟨w1.heap.size, 1, none⟩ = some (.bool false) := (by rw [cell_of q]; rfl); have p2 : w2.cell? ⟨w1.heap.size, 2, none⟩ = some (.int .i64 256) := (by rw [cell_of q]; rfl); have p3 : w2.cell? ⟨w1.heap.size, 3, none⟩ = some (.bool false) := (by rw [cell_of q]; rfl); clear q; have HK : Hid _ := HK.out.trans k1; have E1 : Hid _ := E1.out.calm k1; obtain ⟨g0, g1, g2⟩ := E1.out.cells; have Hr : Hid _ := E1.out.commit; clear k1))
    all_goals
      go_ret
      exact ⟨rfl, HK.out⟩
set_option maxRecDepth 100000 in
set_option maxHeartbeats 2000000 in
theorem check_3 (w : World) (T B : ByteArray) (c : List UInt8) (hc : c.length = 32) (hT : T.size ≤ maxLen) (hB : B.size ≤ maxLen) :
    Calls Try.prog 23 #[.agg (ec 3 T B c).toArray] w fun e w' => e = .returned (.int .i64 (ck 3 T B c)) ∧ Keep (fun _ => False) w w' := by
  unfold maxLen at hB
  by_cases ht : T.size = 0
  · obtain rfl := empty_of ht
    by_cases hz : c = Z32
    · have hcmp := neq_z c hc _ (ne_zf hz)
      by_cases hb : B.size = 0
      · obtain rfl := empty_of hb
        have e : ck 3 ByteArray.empty ByteArray.empty c = 4 := by simp [ck, pT, pC, pB, pE, ht, hz, hb]; try omega
        rw [e]
        have Hc : Hid _ := hc
        have hgd := guard_id
        have E0 : Hid _ := EAt.new (K := 3) (T := ByteArray.empty) (B := ByteArray.empty) w hc
        generalize hX : (ec 3 ByteArray.empty ByteArray.empty c).toArray = X at E0 ⊢
        obtain ⟨g0, g1, g2⟩ := E0.out.cells
        have Hr : Hid _ := E0.out.commit
        clear e hX hc
        try clear hz
        go_enter Try.func23, Try.ntmps23
        go_wp2_with (first | (go_at_call 57; refine (of_any _ 3 (by decide)).mono ?_; rw [show pT 3 = false from rfl, show pC 3 = false from rfl, show pB 3 = 512 from rfl, show pE 3 = false from rfl]; rintro e w1 ⟨rfl, k1⟩; have E1 : Hid _ := (E0.out.calm k1).calm ((Keep.refl (fun _ => False) w1).alloc (.cells #[.bool false, .bool false, .int .i64 512, .bool false] 91)); have HK : Hid _ := (((Keep.refl (fun _ => False) w).alloc _).trans k1).alloc (.cells #[.bool false, .bool false, .int .i64 512, .bool false] 91); have HPp : Hid _ := heap_alloc_new w1 (.cells #[.bool false, .bool false, .int .i64 512, .bool false] 91); obtain ⟨g0, g1, g2⟩ := E1.out.cells; have Hr : Hid _ := E1.out.commit; clear k1) | (refine wl_loadG (by rfl) rfl rfl Hc.out Hr.out ?_; simp only [Act.put, List.setIfInBounds_toArray, List.set_cons_zero, List.set_cons_succ]) | (go_at_call 60; refine (Tp.check_any _ _ hT _ Hv.out).mono ?_; rintro e w2 ⟨rfl, k1⟩; have q := k1.get HPp.out (fun h => h); have p0 : w2.cell? ⟨w1.heap.size, 0, none⟩ = some (.bool false) := (by rw [cell_of q]; rfl); have p1 : w2.cell? ⟨w1.heap.size, 1, none⟩ = some (.bool false) := (by rw [cell_of q]; rfl); have p2 : w2.cell? ⟨w1.heap.size, 2, none⟩ = some (.int .i64 512) := (by rw [cell_of q]; rfl); have p3 : w2.cell? ⟨w1.heap.size, 3, none⟩ = some (.bool false) := (by rw [cell_of q]; rfl); clear q; have HK : Hid _ := HK.out.trans k1; have E1 : Hid _ := E1.out.calm k1; obtain ⟨g0, g1, g2⟩ := E1.out.cells; have Hr : Hid _ := E1.out.commit; clear k1))
        all_goals
          go_ret
          exact ⟨rfl, HK.out⟩
      · have hb1 := list_ne hb
        have hb2 := list_ne2 hb
        by_cases hm : 512 < B.size
        · skip
          have e : ck 3 ByteArray.empty B c = 3 := by simp [ck, pT, pC, pB, pE, ht, hz, hb, hm]; try omega
          rw [e]
          have Hc : Hid _ := hc
          have hgd := guard_id
          have E0 : Hid _ := EAt.new (K := 3) (T := ByteArray.empty) (B := B) w hc
          generalize hX : (ec 3 ByteArray.empty B c).toArray = X at E0 ⊢
          obtain ⟨g0, g1, g2⟩ := E0.out.cells
          have Hr : Hid _ := E0.out.commit
          clear e hX hc
          try clear hz
          go_enter Try.func23, Try.ntmps23
          go_wp2_with (first | (go_at_call 57; refine (of_any _ 3 (by decide)).mono ?_; rw [show pT 3 = false from rfl, show pC 3 = false from rfl, show pB 3 = 512 from rfl, show pE 3 = false from rfl]; rintro e w1 ⟨rfl, k1⟩; have E1 : Hid _ := (E0.out.calm k1).calm ((Keep.refl (fun _ => False) w1).alloc (.cells #[.bool false, .bool false, .int .i64 512, .bool false] 91)); have HK : Hid _ := (((Keep.refl (fun _ => False) w).alloc _).trans k1).alloc (.cells #[.bool false, .bool false, .int .i64 512, .bool false] 91); have HPp : Hid _ := heap_alloc_new w1 (.cells #[.bool false, .bool false, .int .i64 512, .bool false] 91); obtain ⟨g0, g1, g2⟩ := E1.out.cells; have Hr : Hid _ := E1.out.commit; clear k1) | (refine wl_loadG (by rfl) rfl rfl Hc.out Hr.out ?_; simp only [Act.put, List.setIfInBounds_toArray, List.set_cons_zero, List.set_cons_succ]) | (go_at_call 60; refine (Tp.check_any _ _ hT _ Hv.out).mono ?_; rintro e w2 ⟨rfl, k1⟩; have q := k1.get HPp.out (fun h => h); have p0 : w2.cell? ⟨w1.heap.size, 0, none⟩ = some (.bool false) := (by rw [cell_of q]; rfl); have p1 : w2.cell? ⟨w1.heap.size, 1, none⟩ = some (.bool false) := (by rw [cell_of q]; rfl); have p2 : w2.cell? ⟨w1.heap.size, 2, none⟩ = some (.int .i64 512) := (by rw [cell_of q]; rfl); have p3 : w2.cell? ⟨w1.heap.size, 3, none⟩ = some (.bool false) := (by rw [cell_of q]; rfl); clear q; have HK : Hid _ := HK.out.trans k1; have E1 : Hid _ := E1.out.calm k1; obtain ⟨g0, g1, g2⟩ := E1.out.cells; have Hr : Hid _ := E1.out.commit; clear k1))
          all_goals
            go_ret
            exact ⟨rfl, HK.out⟩
        · skip
          have e : ck 3 ByteArray.empty B c = 0 := by simp [ck, pT, pC, pB, pE, ht, hz, hb, hm]; try omega
          rw [e]
          have Hc : Hid _ := hc
          have hgd := guard_id
          have E0 : Hid _ := EAt.new (K := 3) (T := ByteArray.empty) (B := B) w hc
          generalize hX : (ec 3 ByteArray.empty B c).toArray = X at E0 ⊢
          obtain ⟨g0, g1, g2⟩ := E0.out.cells
          have Hr : Hid _ := E0.out.commit
          clear e hX hc
          try clear hz
          go_enter Try.func23, Try.ntmps23
          go_wp2_with (first | (go_at_call 57; refine (of_any _ 3 (by decide)).mono ?_; rw [show pT 3 = false from rfl, show pC 3 = false from rfl, show pB 3 = 512 from rfl, show pE 3 = false from rfl]; rintro e w1 ⟨rfl, k1⟩; have E1 : Hid _ := (E0.out.calm k1).calm ((Keep.refl (fun _ => False) w1).alloc (.cells #[.bool false, .bool false, .int .i64 512, .bool false] 91)); have HK : Hid _ := (((Keep.refl (fun _ => False) w).alloc _).trans k1).alloc (.cells #[.bool false, .bool false, .int .i64 512, .bool false] 91); have HPp : Hid _ := heap_alloc_new w1 (.cells #[.bool false, .bool false, .int .i64 512, .bool false] 91); obtain ⟨g0, g1, g2⟩ := E1.out.cells; have Hr : Hid _ := E1.out.commit; clear k1) | (refine wl_loadG (by rfl) rfl rfl Hc.out Hr.out ?_; simp only [Act.put, List.setIfInBounds_toArray, List.set_cons_zero, List.set_cons_succ]) | (go_at_call 60; refine (Tp.check_any _ _ hT _ Hv.out).mono ?_; rintro e w2 ⟨rfl, k1⟩; have q := k1.get HPp.out (fun h => h); have p0 : w2.cell? ⟨w1.heap.size, 0, none⟩ = some (.bool false) := (by rw [cell_of q]; rfl); have p1 : w2.cell? ⟨w1.heap.size, 1, none⟩ = some (.bool false) := (by rw [cell_of q]; rfl); have p2 : w2.cell? ⟨w1.heap.size, 2, none⟩ = some (.int .i64 512) := (by rw [cell_of q]; rfl); have p3 : w2.cell? ⟨w1.heap.size, 3, none⟩ = some (.bool false) := (by rw [cell_of q]; rfl); clear q; have HK : Hid _ := HK.out.trans k1; have E1 : Hid _ := E1.out.calm k1; obtain ⟨g0, g1, g2⟩ := E1.out.cells; have Hr : Hid _ := E1.out.commit; clear k1))
          all_goals
            go_ret
            exact ⟨rfl, HK.out⟩
    · have hcmp := neq_z c hc _ (ne_zt hz)
      have e : ck 3 ByteArray.empty B c = 4 := by simp [ck, pT, pC, pB, pE, ht, hz]; try omega
      rw [e]
      have Hc : Hid _ := hc
      have hgd := guard_id
      have E0 : Hid _ := EAt.new (K := 3) (T := ByteArray.empty) (B := B) w hc
      generalize hX : (ec 3 ByteArray.empty B c).toArray = X at E0 ⊢
      obtain ⟨g0, g1, g2⟩ := E0.out.cells
      have Hr : Hid _ := E0.out.commit
      clear e hX hc
      try clear hz
      go_enter Try.func23, Try.ntmps23
      go_wp2_with (first | (go_at_call 57; refine (of_any _ 3 (by decide)).mono ?_; rw [show pT 3 = false from rfl, show pC 3 = false from rfl, show pB 3 = 512 from rfl, show pE 3 = false from rfl]; rintro e w1 ⟨rfl, k1⟩; have E1 : Hid _ := (E0.out.calm k1).calm ((Keep.refl (fun _ => False) w1).alloc (.cells #[.bool false, .bool false, .int .i64 512, .bool false] 91)); have HK : Hid _ := (((Keep.refl (fun _ => False) w).alloc _).trans k1).alloc (.cells #[.bool false, .bool false, .int .i64 512, .bool false] 91); have HPp : Hid _ := heap_alloc_new w1 (.cells #[.bool false, .bool false, .int .i64 512, .bool false] 91); obtain ⟨g0, g1, g2⟩ := E1.out.cells; have Hr : Hid _ := E1.out.commit; clear k1) | (refine wl_loadG (by rfl) rfl rfl Hc.out Hr.out ?_; simp only [Act.put, List.setIfInBounds_toArray, List.set_cons_zero, List.set_cons_succ]) | (go_at_call 60; refine (Tp.check_any _ _ hT _ Hv.out).mono ?_; rintro e w2 ⟨rfl, k1⟩; have q := k1.get HPp.out (fun h => h); have p0 : w2.cell? ⟨w1.heap.size, 0, none⟩ = some (.bool false) := (by rw [cell_of q]; rfl); have p1 : w2.cell? ⟨w1.heap.size, 1, none⟩ = some (.bool false) := (by rw [cell_of q]; rfl); have p2 : w2.cell? ⟨w1.heap.size, 2, none⟩ = some (.int .i64 512) := (by rw [cell_of q]; rfl); have p3 : w2.cell? ⟨w1.heap.size, 3, none⟩ = some (.bool false) := (by rw [cell_of q]; rfl); clear q; have HK : Hid _ := HK.out.trans k1; have E1 : Hid _ := E1.out.calm k1; obtain ⟨g0, g1, g2⟩ := E1.out.cells; have Hr : Hid _ := E1.out.commit; clear k1))
      all_goals
        go_ret
        exact ⟨rfl, HK.out⟩
  · have ht1 := list_ne ht
    have ht2 := list_ne2 ht
    have e : ck 3 T B c = 4 := by simp [ck, pT, pC, pB, pE, ht]; try omega
    rw [e]
    have Hc : Hid _ := hc
    have hgd := guard_id
    have E0 : Hid _ := EAt.new (K := 3) (T := T) (B := B) w hc
    generalize hX : (ec 3 T B c).toArray = X at E0 ⊢
    obtain ⟨g0, g1, g2⟩ := E0.out.cells
    have Hr : Hid _ := E0.out.commit
    clear e hX hc
    try clear hz
    go_enter Try.func23, Try.ntmps23
    go_wp2_with (first | (go_at_call 57; refine (of_any _ 3 (by decide)).mono ?_; rw [show pT 3 = false from rfl, show pC 3 = false from rfl, show pB 3 = 512 from rfl, show pE 3 = false from rfl]; rintro e w1 ⟨rfl, k1⟩; have E1 : Hid _ := (E0.out.calm k1).calm ((Keep.refl (fun _ => False) w1).alloc (.cells #[.bool false, .bool false, .int .i64 512, .bool false] 91)); have HK : Hid _ := (((Keep.refl (fun _ => False) w).alloc _).trans k1).alloc (.cells #[.bool false, .bool false, .int .i64 512, .bool false] 91); have HPp : Hid _ := heap_alloc_new w1 (.cells #[.bool false, .bool false, .int .i64 512, .bool false] 91); obtain ⟨g0, g1, g2⟩ := E1.out.cells; have Hr : Hid _ := E1.out.commit; clear k1) | (refine wl_loadG (by rfl) rfl rfl Hc.out Hr.out ?_; simp only [Act.put, List.setIfInBounds_toArray, List.set_cons_zero, List.set_cons_succ]) | (go_at_call 60; refine (Tp.check_any _ _ hT _ Hv.out).mono ?_; rintro e w2 ⟨rfl, k1⟩; have q := k1.get HPp.out (fun h => h); have p0 : w2.cell? ⟨w1.heap.size, 0, none⟩ = some (.bool false) := (by rw [cell_of q]; rfl); have p1 : w2.cell? ⟨w1.heap.size, 1, none⟩ = some (.bool false) := (by rw [cell_of q]; rfl); have p2 : w2.cell? ⟨w1.heap.size, 2, none⟩ = some (.int .i64 512) := (by rw [cell_of q]; rfl); have p3 : w2.cell? ⟨w1.heap.size, 3, none⟩ = some (.bool false) := (by rw [cell_of q]; rfl); clear q; have HK : Hid _ := HK.out.trans k1; have E1 : Hid _ := E1.out.calm k1; obtain ⟨g0, g1, g2⟩ := E1.out.cells; have Hr : Hid _ := E1.out.commit; clear k1))
    all_goals
      go_ret
      exact ⟨rfl, HK.out⟩
set_option maxRecDepth 100000 in
set_option maxHeartbeats 2000000 in
theorem check_4 (w : World) (T B : ByteArray) (c : List UInt8) (hc : c.length = 32) (hT : T.size ≤ maxLen) (hB : B.size ≤ maxLen) :
    Calls Try.prog 23 #[.agg (ec 4 T B c).toArray] w fun e w' => e = .returned (.int .i64 (ck 4 T B c)) ∧ Keep (fun _ => False) w w' := by
  unfold maxLen at hB
  by_cases ht : T.size = 0
  · obtain rfl := empty_of ht
    by_cases hb : B.size = 0
    · obtain rfl := empty_of hb
      have e : ck 4 ByteArray.empty ByteArray.empty c = 0 := by simp [ck, pT, pC, pB, pE, ht, hb]; try omega
      rw [e]
      have Hc : Hid _ := hc
      have hgd := guard_id
      have E0 : Hid _ := EAt.new (K := 4) (T := ByteArray.empty) (B := ByteArray.empty) w hc
      generalize hX : (ec 4 ByteArray.empty ByteArray.empty c).toArray = X at E0 ⊢
      obtain ⟨g0, g1, g2⟩ := E0.out.cells
      have Hr : Hid _ := E0.out.commit
      clear e hX hc
      try clear hz
      go_enter Try.func23, Try.ntmps23
      go_wp2_with (first | (go_at_call 57; refine (of_any _ 4 (by decide)).mono ?_; rw [show pT 4 = false from rfl, show pC 4 = true from rfl, show pB 4 = 0 from rfl, show pE 4 = false from rfl]; rintro e w1 ⟨rfl, k1⟩; have E1 : Hid _ := (E0.out.calm k1).calm ((Keep.refl (fun _ => False) w1).alloc (.cells #[.bool false, .bool true, .int .i64 0, .bool false] 91)); have HK : Hid _ := (((Keep.refl (fun _ => False) w).alloc _).trans k1).alloc (.cells #[.bool false, .bool true, .int .i64 0, .bool false] 91); have HPp : Hid _ := heap_alloc_new w1 (.cells #[.bool false, .bool true, .int .i64 0, .bool false] 91); obtain ⟨g0, g1, g2⟩ := E1.out.cells; have Hr : Hid _ := E1.out.commit; clear k1) | (refine wl_loadG (by rfl) rfl rfl Hc.out Hr.out ?_; simp only [Act.put, List.setIfInBounds_toArray, List.set_cons_zero, List.set_cons_succ]) | (go_at_call 60; refine (Tp.check_any _ _ hT _ Hv.out).mono ?_; rintro e w2 ⟨rfl, k1⟩; have q := k1.get HPp.out (fun h => h); have p0 : w2.cell? ⟨w1.heap.size, 0, none⟩ = some (.bool false) := (by rw [cell_of q]; rfl); have p1 : w2.cell? ⟨w1.heap.size, 1, none⟩ = some (.bool true) := (by rw [cell_of q]; rfl); have p2 : w2.cell? ⟨w1.heap.size, 2, none⟩ = some (.int .i64 0) := (by rw [cell_of q]; rfl); have p3 : w2.cell? ⟨w1.heap.size, 3, none⟩ = some (.bool false) := (by rw [cell_of q]; rfl); clear q; have HK : Hid _ := HK.out.trans k1; have E1 : Hid _ := E1.out.calm k1; obtain ⟨g0, g1, g2⟩ := E1.out.cells; have Hr : Hid _ := E1.out.commit; clear k1))
      all_goals
        go_ret
        exact ⟨rfl, HK.out⟩
    · have hb1 := list_ne hb
      have hb2 := list_ne2 hb
      have e : ck 4 ByteArray.empty B c = 4 := by simp [ck, pT, pC, pB, pE, ht, hb]; try omega
      rw [e]
      have Hc : Hid _ := hc
      have hgd := guard_id
      have E0 : Hid _ := EAt.new (K := 4) (T := ByteArray.empty) (B := B) w hc
      generalize hX : (ec 4 ByteArray.empty B c).toArray = X at E0 ⊢
      obtain ⟨g0, g1, g2⟩ := E0.out.cells
      have Hr : Hid _ := E0.out.commit
      clear e hX hc
      try clear hz
      go_enter Try.func23, Try.ntmps23
      go_wp2_with (first | (go_at_call 57; refine (of_any _ 4 (by decide)).mono ?_; rw [show pT 4 = false from rfl, show pC 4 = true from rfl, show pB 4 = 0 from rfl, show pE 4 = false from rfl]; rintro e w1 ⟨rfl, k1⟩; have E1 : Hid _ := (E0.out.calm k1).calm ((Keep.refl (fun _ => False) w1).alloc (.cells #[.bool false, .bool true, .int .i64 0, .bool false] 91)); have HK : Hid _ := (((Keep.refl (fun _ => False) w).alloc _).trans k1).alloc (.cells #[.bool false, .bool true, .int .i64 0, .bool false] 91); have HPp : Hid _ := heap_alloc_new w1 (.cells #[.bool false, .bool true, .int .i64 0, .bool false] 91); obtain ⟨g0, g1, g2⟩ := E1.out.cells; have Hr : Hid _ := E1.out.commit; clear k1) | (refine wl_loadG (by rfl) rfl rfl Hc.out Hr.out ?_; simp only [Act.put, List.setIfInBounds_toArray, List.set_cons_zero, List.set_cons_succ]) | (go_at_call 60; refine (Tp.check_any _ _ hT _ Hv.out).mono ?_; rintro e w2 ⟨rfl, k1⟩; have q := k1.get HPp.out (fun h => h); have p0 : w2.cell? ⟨w1.heap.size, 0, none⟩ = some (.bool false) := (by rw [cell_of q]; rfl); have p1 : w2.cell? ⟨w1.heap.size, 1, none⟩ = some (.bool true) := (by rw [cell_of q]; rfl); have p2 : w2.cell? ⟨w1.heap.size, 2, none⟩ = some (.int .i64 0) := (by rw [cell_of q]; rfl); have p3 : w2.cell? ⟨w1.heap.size, 3, none⟩ = some (.bool false) := (by rw [cell_of q]; rfl); clear q; have HK : Hid _ := HK.out.trans k1; have E1 : Hid _ := E1.out.calm k1; obtain ⟨g0, g1, g2⟩ := E1.out.cells; have Hr : Hid _ := E1.out.commit; clear k1))
      all_goals
        go_ret
        exact ⟨rfl, HK.out⟩
  · have ht1 := list_ne ht
    have ht2 := list_ne2 ht
    have e : ck 4 T B c = 4 := by simp [ck, pT, pC, pB, pE, ht]; try omega
    rw [e]
    have Hc : Hid _ := hc
    have hgd := guard_id
    have E0 : Hid _ := EAt.new (K := 4) (T := T) (B := B) w hc
    generalize hX : (ec 4 T B c).toArray = X at E0 ⊢
    obtain ⟨g0, g1, g2⟩ := E0.out.cells
    have Hr : Hid _ := E0.out.commit
    clear e hX hc
    try clear hz
    go_enter Try.func23, Try.ntmps23
    go_wp2_with (first | (go_at_call 57; refine (of_any _ 4 (by decide)).mono ?_; rw [show pT 4 = false from rfl, show pC 4 = true from rfl, show pB 4 = 0 from rfl, show pE 4 = false from rfl]; rintro e w1 ⟨rfl, k1⟩; have E1 : Hid _ := (E0.out.calm k1).calm ((Keep.refl (fun _ => False) w1).alloc (.cells #[.bool false, .bool true, .int .i64 0, .bool false] 91)); have HK : Hid _ := (((Keep.refl (fun _ => False) w).alloc _).trans k1).alloc (.cells #[.bool false, .bool true, .int .i64 0, .bool false] 91); have HPp : Hid _ := heap_alloc_new w1 (.cells #[.bool false, .bool true, .int .i64 0, .bool false] 91); obtain ⟨g0, g1, g2⟩ := E1.out.cells; have Hr : Hid _ := E1.out.commit; clear k1) | (refine wl_loadG (by rfl) rfl rfl Hc.out Hr.out ?_; simp only [Act.put, List.setIfInBounds_toArray, List.set_cons_zero, List.set_cons_succ]) | (go_at_call 60; refine (Tp.check_any _ _ hT _ Hv.out).mono ?_; rintro e w2 ⟨rfl, k1⟩; have q := k1.get HPp.out (fun h => h); have p0 : w2.cell? ⟨w1.heap.size, 0, none⟩ = some (.bool false) := (by rw [cell_of q]; rfl); have p1 : w2.cell? ⟨w1.heap.size, 1, none⟩ = some (.bool true) := (by rw [cell_of q]; rfl); have p2 : w2.cell? ⟨w1.heap.size, 2, none⟩ = some (.int .i64 0) := (by rw [cell_of q]; rfl); have p3 : w2.cell? ⟨w1.heap.size, 3, none⟩ = some (.bool false) := (by rw [cell_of q]; rfl); clear q; have HK : Hid _ := HK.out.trans k1; have E1 : Hid _ := E1.out.calm k1; obtain ⟨g0, g1, g2⟩ := E1.out.cells; have Hr : Hid _ := E1.out.commit; clear k1))
    all_goals
      go_ret
      exact ⟨rfl, HK.out⟩
set_option maxRecDepth 100000 in
set_option maxHeartbeats 2000000 in
theorem check_5 (w : World) (T B : ByteArray) (c : List UInt8) (hc : c.length = 32) (hT : T.size ≤ maxLen) (hB : B.size ≤ maxLen) :
    Calls Try.prog 23 #[.agg (ec 5 T B c).toArray] w fun e w' => e = .returned (.int .i64 (ck 5 T B c)) ∧ Keep (fun _ => False) w w' := by
  unfold maxLen at hB
  by_cases hz : c = Z32
  · have hcmp := neq_z c hc _ (ne_zf hz)
    by_cases hb : B.size = 0
    · obtain rfl := empty_of hb
      by_cases hk : tk T = 0
      · have Hv : Hid ((if tk T = 0 then (9 : Int) else 0) = 9) := (if_pos hk : (if tk T = 0 then (9 : Int) else 0) = 9)
        have e : ck 5 T ByteArray.empty c = 9 := by simp [ck, pT, pC, pB, pE, hz, hb, hk]; try omega
        rw [e]
        have Hc : Hid _ := hc
        have hgd := guard_id
        have E0 : Hid _ := EAt.new (K := 5) (T := T) (B := ByteArray.empty) w hc
        generalize hX : (ec 5 T ByteArray.empty c).toArray = X at E0 ⊢
        obtain ⟨g0, g1, g2⟩ := E0.out.cells
        have Hr : Hid _ := E0.out.commit
        clear e hX hc
        try clear hz
        go_enter Try.func23, Try.ntmps23
        go_wp2_with (first | (go_at_call 57; refine (of_any _ 5 (by decide)).mono ?_; rw [show pT 5 = true from rfl, show pC 5 = false from rfl, show pB 5 = 0 from rfl, show pE 5 = false from rfl]; rintro e w1 ⟨rfl, k1⟩; have E1 : Hid _ := (E0.out.calm k1).calm ((Keep.refl (fun _ => False) w1).alloc (.cells #[.bool true, .bool false, .int .i64 0, .bool false] 91)); have HK : Hid _ := (((Keep.refl (fun _ => False) w).alloc _).trans k1).alloc (.cells #[.bool true, .bool false, .int .i64 0, .bool false] 91); have HPp : Hid _ := heap_alloc_new w1 (.cells #[.bool true, .bool false, .int .i64 0, .bool false] 91); obtain ⟨g0, g1, g2⟩ := E1.out.cells; have Hr : Hid _ := E1.out.commit; clear k1) | (refine wl_loadG (by rfl) rfl rfl Hc.out Hr.out ?_; simp only [Act.put, List.setIfInBounds_toArray, List.set_cons_zero, List.set_cons_succ]) | (go_at_call 60; refine (Tp.check_any _ _ hT _ Hv.out).mono ?_; rintro e w2 ⟨rfl, k1⟩; have q := k1.get HPp.out (fun h => h); have p0 : w2.cell? ⟨w1.heap.size, 0, none⟩ = some (.bool true) := (by rw [cell_of q]; rfl); have p1 : w2.cell? ⟨w1.heap.size, 1, none⟩ = some (.bool false) := (by rw [cell_of q]; rfl); have p2 : w2.cell? ⟨w1.heap.size, 2, none⟩ = some (.int .i64 0) := (by rw [cell_of q]; rfl); have p3 : w2.cell? ⟨w1.heap.size, 3, none⟩ = some (.bool false) := (by rw [cell_of q]; rfl); clear q; have HK : Hid _ := HK.out.trans k1; have E1 : Hid _ := E1.out.calm k1; obtain ⟨g0, g1, g2⟩ := E1.out.cells; have Hr : Hid _ := E1.out.commit; clear k1))
        all_goals
          go_ret
          exact ⟨rfl, HK.out⟩
      · have Hv : Hid ((if tk T = 0 then (9 : Int) else 0) = 0) := (if_neg hk : (if tk T = 0 then (9 : Int) else 0) = 0)
        have e : ck 5 T ByteArray.empty c = 0 := by simp [ck, pT, pC, pB, pE, hz, hb, hk]; try omega
        rw [e]
        have Hc : Hid _ := hc
        have hgd := guard_id
        have E0 : Hid _ := EAt.new (K := 5) (T := T) (B := ByteArray.empty) w hc
        generalize hX : (ec 5 T ByteArray.empty c).toArray = X at E0 ⊢
        obtain ⟨g0, g1, g2⟩ := E0.out.cells
        have Hr : Hid _ := E0.out.commit
        clear e hX hc
        try clear hz
        go_enter Try.func23, Try.ntmps23
        go_wp2_with (first | (go_at_call 57; refine (of_any _ 5 (by decide)).mono ?_; rw [show pT 5 = true from rfl, show pC 5 = false from rfl, show pB 5 = 0 from rfl, show pE 5 = false from rfl]; rintro e w1 ⟨rfl, k1⟩; have E1 : Hid _ := (E0.out.calm k1).calm ((Keep.refl (fun _ => False) w1).alloc (.cells #[.bool true, .bool false, .int .i64 0, .bool false] 91)); have HK : Hid _ := (((Keep.refl (fun _ => False) w).alloc _).trans k1).alloc (.cells #[.bool true, .bool false, .int .i64 0, .bool false] 91); have HPp : Hid _ := heap_alloc_new w1 (.cells #[.bool true, .bool false, .int .i64 0, .bool false] 91); obtain ⟨g0, g1, g2⟩ := E1.out.cells; have Hr : Hid _ := E1.out.commit; clear k1) | (refine wl_loadG (by rfl) rfl rfl Hc.out Hr.out ?_; simp only [Act.put, List.setIfInBounds_toArray, List.set_cons_zero, List.set_cons_succ]) | (go_at_call 60; refine (Tp.check_any _ _ hT _ Hv.out).mono ?_; rintro e w2 ⟨rfl, k1⟩; have q := k1.get HPp.out (fun h => h); have p0 : w2.cell? ⟨w1.heap.size, 0, none⟩ = some (.bool true) := (by rw [cell_of q]; rfl); have p1 : w2.cell? ⟨w1.heap.size, 1, none⟩ = some (.bool false) := (by rw [cell_of q]; rfl); have p2 : w2.cell? ⟨w1.heap.size, 2, none⟩ = some (.int .i64 0) := (by rw [cell_of q]; rfl); have p3 : w2.cell? ⟨w1.heap.size, 3, none⟩ = some (.bool false) := (by rw [cell_of q]; rfl); clear q; have HK : Hid _ := HK.out.trans k1; have E1 : Hid _ := E1.out.calm k1; obtain ⟨g0, g1, g2⟩ := E1.out.cells; have Hr : Hid _ := E1.out.commit; clear k1))
        all_goals
          go_ret
          exact ⟨rfl, HK.out⟩
    · have hb1 := list_ne hb
      have hb2 := list_ne2 hb
      have e : ck 5 T B c = 4 := by simp [ck, pT, pC, pB, pE, hz, hb]; try omega
      rw [e]
      have Hc : Hid _ := hc
      have hgd := guard_id
      have E0 : Hid _ := EAt.new (K := 5) (T := T) (B := B) w hc
      generalize hX : (ec 5 T B c).toArray = X at E0 ⊢
      obtain ⟨g0, g1, g2⟩ := E0.out.cells
      have Hr : Hid _ := E0.out.commit
      clear e hX hc
      try clear hz
      go_enter Try.func23, Try.ntmps23
      go_wp2_with (first | (go_at_call 57; refine (of_any _ 5 (by decide)).mono ?_; rw [show pT 5 = true from rfl, show pC 5 = false from rfl, show pB 5 = 0 from rfl, show pE 5 = false from rfl]; rintro e w1 ⟨rfl, k1⟩; have E1 : Hid _ := (E0.out.calm k1).calm ((Keep.refl (fun _ => False) w1).alloc (.cells #[.bool true, .bool false, .int .i64 0, .bool false] 91)); have HK : Hid _ := (((Keep.refl (fun _ => False) w).alloc _).trans k1).alloc (.cells #[.bool true, .bool false, .int .i64 0, .bool false] 91); have HPp : Hid _ := heap_alloc_new w1 (.cells #[.bool true, .bool false, .int .i64 0, .bool false] 91); obtain ⟨g0, g1, g2⟩ := E1.out.cells; have Hr : Hid _ := E1.out.commit; clear k1) | (refine wl_loadG (by rfl) rfl rfl Hc.out Hr.out ?_; simp only [Act.put, List.setIfInBounds_toArray, List.set_cons_zero, List.set_cons_succ]) | (go_at_call 60; refine (Tp.check_any _ _ hT _ Hv.out).mono ?_; rintro e w2 ⟨rfl, k1⟩; have q := k1.get HPp.out (fun h => h); have p0 : w2.cell? ⟨w1.heap.size, 0, none⟩ = some (.bool true) := (by rw [cell_of q]; rfl); have p1 : w2.cell? ⟨w1.heap.size, 1, none⟩ = some (.bool false) := (by rw [cell_of q]; rfl); have p2 : w2.cell? ⟨w1.heap.size, 2, none⟩ = some (.int .i64 0) := (by rw [cell_of q]; rfl); have p3 : w2.cell? ⟨w1.heap.size, 3, none⟩ = some (.bool false) := (by rw [cell_of q]; rfl); clear q; have HK : Hid _ := HK.out.trans k1; have E1 : Hid _ := E1.out.calm k1; obtain ⟨g0, g1, g2⟩ := E1.out.cells; have Hr : Hid _ := E1.out.commit; clear k1))
      all_goals
        go_ret
        exact ⟨rfl, HK.out⟩
  · have hcmp := neq_z c hc _ (ne_zt hz)
    have e : ck 5 T B c = 4 := by simp [ck, pT, pC, pB, pE, hz]; try omega
    rw [e]
    have Hc : Hid _ := hc
    have hgd := guard_id
    have E0 : Hid _ := EAt.new (K := 5) (T := T) (B := B) w hc
    generalize hX : (ec 5 T B c).toArray = X at E0 ⊢
    obtain ⟨g0, g1, g2⟩ := E0.out.cells
    have Hr : Hid _ := E0.out.commit
    clear e hX hc
    try clear hz
    go_enter Try.func23, Try.ntmps23
    go_wp2_with (first | (go_at_call 57; refine (of_any _ 5 (by decide)).mono ?_; rw [show pT 5 = true from rfl, show pC 5 = false from rfl, show pB 5 = 0 from rfl, show pE 5 = false from rfl]; rintro e w1 ⟨rfl, k1⟩; have E1 : Hid _ := (E0.out.calm k1).calm ((Keep.refl (fun _ => False) w1).alloc (.cells #[.bool true, .bool false, .int .i64 0, .bool false] 91)); have HK : Hid _ := (((Keep.refl (fun _ => False) w).alloc _).trans k1).alloc (.cells #[.bool true, .bool false, .int .i64 0, .bool false] 91); have HPp : Hid _ := heap_alloc_new w1 (.cells #[.bool true, .bool false, .int .i64 0, .bool false] 91); obtain ⟨g0, g1, g2⟩ := E1.out.cells; have Hr : Hid _ := E1.out.commit; clear k1) | (refine wl_loadG (by rfl) rfl rfl Hc.out Hr.out ?_; simp only [Act.put, List.setIfInBounds_toArray, List.set_cons_zero, List.set_cons_succ]) | (go_at_call 60; refine (Tp.check_any _ _ hT _ Hv.out).mono ?_; rintro e w2 ⟨rfl, k1⟩; have q := k1.get HPp.out (fun h => h); have p0 : w2.cell? ⟨w1.heap.size, 0, none⟩ = some (.bool true) := (by rw [cell_of q]; rfl); have p1 : w2.cell? ⟨w1.heap.size, 1, none⟩ = some (.bool false) := (by rw [cell_of q]; rfl); have p2 : w2.cell? ⟨w1.heap.size, 2, none⟩ = some (.int .i64 0) := (by rw [cell_of q]; rfl); have p3 : w2.cell? ⟨w1.heap.size, 3, none⟩ = some (.bool false) := (by rw [cell_of q]; rfl); clear q; have HK : Hid _ := HK.out.trans k1; have E1 : Hid _ := E1.out.calm k1; obtain ⟨g0, g1, g2⟩ := E1.out.cells; have Hr : Hid _ := E1.out.commit; clear k1))
    all_goals
      go_ret
      exact ⟨rfl, HK.out⟩
set_option maxRecDepth 100000 in
set_option maxHeartbeats 2000000 in
theorem check_6 (w : World) (T B : ByteArray) (c : List UInt8) (hc : c.length = 32) (hT : T.size ≤ maxLen) (hB : B.size ≤ maxLen) :
    Calls Try.prog 23 #[.agg (ec 6 T B c).toArray] w fun e w' => e = .returned (.int .i64 (ck 6 T B c)) ∧ Keep (fun _ => False) w w' := by
  unfold maxLen at hB
  by_cases hz : c = Z32
  · have hcmp := neq_z c hc _ (ne_zf hz)
    by_cases hb : B.size = 0
    · obtain rfl := empty_of hb
      by_cases hk : tk T = 0
      · have Hv : Hid ((if tk T = 0 then (9 : Int) else 0) = 9) := (if_pos hk : (if tk T = 0 then (9 : Int) else 0) = 9)
        have e : ck 6 T ByteArray.empty c = 9 := by simp [ck, pT, pC, pB, pE, hz, hb, hk]; try omega
        rw [e]
        have Hc : Hid _ := hc
        have hgd := guard_id
        have E0 : Hid _ := EAt.new (K := 6) (T := T) (B := ByteArray.empty) w hc
        generalize hX : (ec 6 T ByteArray.empty c).toArray = X at E0 ⊢
        obtain ⟨g0, g1, g2⟩ := E0.out.cells
        have Hr : Hid _ := E0.out.commit
        clear e hX hc
        try clear hz
        go_enter Try.func23, Try.ntmps23
        go_wp2_with (first | (go_at_call 57; refine (of_any _ 6 (by decide)).mono ?_; rw [show pT 6 = true from rfl, show pC 6 = false from rfl, show pB 6 = 0 from rfl, show pE 6 = false from rfl]; rintro e w1 ⟨rfl, k1⟩; have E1 : Hid _ := (E0.out.calm k1).calm ((Keep.refl (fun _ => False) w1).alloc (.cells #[.bool true, .bool false, .int .i64 0, .bool false] 91)); have HK : Hid _ := (((Keep.refl (fun _ => False) w).alloc _).trans k1).alloc (.cells #[.bool true, .bool false, .int .i64 0, .bool false] 91); have HPp : Hid _ := heap_alloc_new w1 (.cells #[.bool true, .bool false, .int .i64 0, .bool false] 91); obtain ⟨g0, g1, g2⟩ := E1.out.cells; have Hr : Hid _ := E1.out.commit; clear k1) | (refine wl_loadG (by rfl) rfl rfl Hc.out Hr.out ?_; simp only [Act.put, List.setIfInBounds_toArray, List.set_cons_zero, List.set_cons_succ]) | (go_at_call 60; refine (Tp.check_any _ _ hT _ Hv.out).mono ?_; rintro e w2 ⟨rfl, k1⟩; have q := k1.get HPp.out (fun h => h); have p0 : w2.cell? ⟨w1.heap.size, 0, none⟩ = some (.bool true) := (by rw [cell_of q]; rfl); have p1 : w2.cell? ⟨w1.heap.size, 1, none⟩ = some (.bool false) := (by rw [cell_of q]; rfl); have p2 : w2.cell? ⟨w1.heap.size, 2, none⟩ = some (.int .i64 0) := (by rw [cell_of q]; rfl); have p3 : w2.cell? ⟨w1.heap.size, 3, none⟩ = some (.bool false) := (by rw [cell_of q]; rfl); clear q; have HK : Hid _ := HK.out.trans k1; have E1 : Hid _ := E1.out.calm k1; obtain ⟨g0, g1, g2⟩ := E1.out.cells; have Hr : Hid _ := E1.out.commit; clear k1))
        all_goals
          go_ret
          exact ⟨rfl, HK.out⟩
      · have Hv : Hid ((if tk T = 0 then (9 : Int) else 0) = 0) := (if_neg hk : (if tk T = 0 then (9 : Int) else 0) = 0)
        have e : ck 6 T ByteArray.empty c = 0 := by simp [ck, pT, pC, pB, pE, hz, hb, hk]; try omega
        rw [e]
        have Hc : Hid _ := hc
        have hgd := guard_id
        have E0 : Hid _ := EAt.new (K := 6) (T := T) (B := ByteArray.empty) w hc
        generalize hX : (ec 6 T ByteArray.empty c).toArray = X at E0 ⊢
        obtain ⟨g0, g1, g2⟩ := E0.out.cells
        have Hr : Hid _ := E0.out.commit
        clear e hX hc
        try clear hz
        go_enter Try.func23, Try.ntmps23
        go_wp2_with (first | (go_at_call 57; refine (of_any _ 6 (by decide)).mono ?_; rw [show pT 6 = true from rfl, show pC 6 = false from rfl, show pB 6 = 0 from rfl, show pE 6 = false from rfl]; rintro e w1 ⟨rfl, k1⟩; have E1 : Hid _ := (E0.out.calm k1).calm ((Keep.refl (fun _ => False) w1).alloc (.cells #[.bool true, .bool false, .int .i64 0, .bool false] 91)); have HK : Hid _ := (((Keep.refl (fun _ => False) w).alloc _).trans k1).alloc (.cells #[.bool true, .bool false, .int .i64 0, .bool false] 91); have HPp : Hid _ := heap_alloc_new w1 (.cells #[.bool true, .bool false, .int .i64 0, .bool false] 91); obtain ⟨g0, g1, g2⟩ := E1.out.cells; have Hr : Hid _ := E1.out.commit; clear k1) | (refine wl_loadG (by rfl) rfl rfl Hc.out Hr.out ?_; simp only [Act.put, List.setIfInBounds_toArray, List.set_cons_zero, List.set_cons_succ]) | (go_at_call 60; refine (Tp.check_any _ _ hT _ Hv.out).mono ?_; rintro e w2 ⟨rfl, k1⟩; have q := k1.get HPp.out (fun h => h); have p0 : w2.cell? ⟨w1.heap.size, 0, none⟩ = some (.bool true) := (by rw [cell_of q]; rfl); have p1 : w2.cell? ⟨w1.heap.size, 1, none⟩ = some (.bool false) := (by rw [cell_of q]; rfl); have p2 : w2.cell? ⟨w1.heap.size, 2, none⟩ = some (.int .i64 0) := (by rw [cell_of q]; rfl); have p3 : w2.cell? ⟨w1.heap.size, 3, none⟩ = some (.bool false) := (by rw [cell_of q]; rfl); clear q; have HK : Hid _ := HK.out.trans k1; have E1 : Hid _ := E1.out.calm k1; obtain ⟨g0, g1, g2⟩ := E1.out.cells; have Hr : Hid _ := E1.out.commit; clear k1))
        all_goals
          go_ret
          exact ⟨rfl, HK.out⟩
    · have hb1 := list_ne hb
      have hb2 := list_ne2 hb
      have e : ck 6 T B c = 4 := by simp [ck, pT, pC, pB, pE, hz, hb]; try omega
      rw [e]
      have Hc : Hid _ := hc
      have hgd := guard_id
      have E0 : Hid _ := EAt.new (K := 6) (T := T) (B := B) w hc
      generalize hX : (ec 6 T B c).toArray = X at E0 ⊢
      obtain ⟨g0, g1, g2⟩ := E0.out.cells
      have Hr : Hid _ := E0.out.commit
      clear e hX hc
      try clear hz
      go_enter Try.func23, Try.ntmps23
      go_wp2_with (first | (go_at_call 57; refine (of_any _ 6 (by decide)).mono ?_; rw [show pT 6 = true from rfl, show pC 6 = false from rfl, show pB 6 = 0 from rfl, show pE 6 = false from rfl]; rintro e w1 ⟨rfl, k1⟩; have E1 : Hid _ := (E0.out.calm k1).calm ((Keep.refl (fun _ => False) w1).alloc (.cells #[.bool true, .bool false, .int .i64 0, .bool false] 91)); have HK : Hid _ := (((Keep.refl (fun _ => False) w).alloc _).trans k1).alloc (.cells #[.bool true, .bool false, .int .i64 0, .bool false] 91); have HPp : Hid _ := heap_alloc_new w1 (.cells #[.bool true, .bool false, .int .i64 0, .bool false] 91); obtain ⟨g0, g1, g2⟩ := E1.out.cells; have Hr : Hid _ := E1.out.commit; clear k1) | (refine wl_loadG (by rfl) rfl rfl Hc.out Hr.out ?_; simp only [Act.put, List.setIfInBounds_toArray, List.set_cons_zero, List.set_cons_succ]) | (go_at_call 60; refine (Tp.check_any _ _ hT _ Hv.out).mono ?_; rintro e w2 ⟨rfl, k1⟩; have q := k1.get HPp.out (fun h => h); have p0 : w2.cell? ⟨w1.heap.size, 0, none⟩ = some (.bool true) := (by rw [cell_of q]; rfl); have p1 : w2.cell? ⟨w1.heap.size, 1, none⟩ = some (.bool false) := (by rw [cell_of q]; rfl); have p2 : w2.cell? ⟨w1.heap.size, 2, none⟩ = some (.int .i64 0) := (by rw [cell_of q]; rfl); have p3 : w2.cell? ⟨w1.heap.size, 3, none⟩ = some (.bool false) := (by rw [cell_of q]; rfl); clear q; have HK : Hid _ := HK.out.trans k1; have E1 : Hid _ := E1.out.calm k1; obtain ⟨g0, g1, g2⟩ := E1.out.cells; have Hr : Hid _ := E1.out.commit; clear k1))
      all_goals
        go_ret
        exact ⟨rfl, HK.out⟩
  · have hcmp := neq_z c hc _ (ne_zt hz)
    have e : ck 6 T B c = 4 := by simp [ck, pT, pC, pB, pE, hz]; try omega
    rw [e]
    have Hc : Hid _ := hc
    have hgd := guard_id
    have E0 : Hid _ := EAt.new (K := 6) (T := T) (B := B) w hc
    generalize hX : (ec 6 T B c).toArray = X at E0 ⊢
    obtain ⟨g0, g1, g2⟩ := E0.out.cells
    have Hr : Hid _ := E0.out.commit
    clear e hX hc
    try clear hz
    go_enter Try.func23, Try.ntmps23
    go_wp2_with (first | (go_at_call 57; refine (of_any _ 6 (by decide)).mono ?_; rw [show pT 6 = true from rfl, show pC 6 = false from rfl, show pB 6 = 0 from rfl, show pE 6 = false from rfl]; rintro e w1 ⟨rfl, k1⟩; have E1 : Hid _ := (E0.out.calm k1).calm ((Keep.refl (fun _ => False) w1).alloc (.cells #[.bool true, .bool false, .int .i64 0, .bool false] 91)); have HK : Hid _ := (((Keep.refl (fun _ => False) w).alloc _).trans k1).alloc (.cells #[.bool true, .bool false, .int .i64 0, .bool false] 91); have HPp : Hid _ := heap_alloc_new w1 (.cells #[.bool true, .bool false, .int .i64 0, .bool false] 91); obtain ⟨g0, g1, g2⟩ := E1.out.cells; have Hr : Hid _ := E1.out.commit; clear k1) | (refine wl_loadG (by rfl) rfl rfl Hc.out Hr.out ?_; simp only [Act.put, List.setIfInBounds_toArray, List.set_cons_zero, List.set_cons_succ]) | (go_at_call 60; refine (Tp.check_any _ _ hT _ Hv.out).mono ?_; rintro e w2 ⟨rfl, k1⟩; have q := k1.get HPp.out (fun h => h); have p0 : w2.cell? ⟨w1.heap.size, 0, none⟩ = some (.bool true) := (by rw [cell_of q]; rfl); have p1 : w2.cell? ⟨w1.heap.size, 1, none⟩ = some (.bool false) := (by rw [cell_of q]; rfl); have p2 : w2.cell? ⟨w1.heap.size, 2, none⟩ = some (.int .i64 0) := (by rw [cell_of q]; rfl); have p3 : w2.cell? ⟨w1.heap.size, 3, none⟩ = some (.bool false) := (by rw [cell_of q]; rfl); clear q; have HK : Hid _ := HK.out.trans k1; have E1 : Hid _ := E1.out.calm k1; obtain ⟨g0, g1, g2⟩ := E1.out.cells; have Hr : Hid _ := E1.out.commit; clear k1))
    all_goals
      go_ret
      exact ⟨rfl, HK.out⟩
set_option maxRecDepth 100000 in
set_option maxHeartbeats 2000000 in
theorem check_7 (w : World) (T B : ByteArray) (c : List UInt8) (hc : c.length = 32) (hT : T.size ≤ maxLen) (hB : B.size ≤ maxLen) :
    Calls Try.prog 23 #[.agg (ec 7 T B c).toArray] w fun e w' => e = .returned (.int .i64 (ck 7 T B c)) ∧ Keep (fun _ => False) w w' := by
  unfold maxLen at hB
  by_cases hz : c = Z32
  · have hcmp := neq_z c hc _ (ne_zf hz)
    by_cases hk : tk T = 0
    · have Hv : Hid ((if tk T = 0 then (9 : Int) else 0) = 9) := (if_pos hk : (if tk T = 0 then (9 : Int) else 0) = 9)
      have e : ck 7 T B c = 9 := by simp [ck, pT, pC, pB, pE, hz, hk]; try omega
      rw [e]
      have Hc : Hid _ := hc
      have hgd := guard_id
      have E0 : Hid _ := EAt.new (K := 7) (T := T) (B := B) w hc
      generalize hX : (ec 7 T B c).toArray = X at E0 ⊢
      obtain ⟨g0, g1, g2⟩ := E0.out.cells
      have Hr : Hid _ := E0.out.commit
      clear e hX hc
      try clear hz
      go_enter Try.func23, Try.ntmps23
      go_wp2_with (first | (go_at_call 57; refine (of_any _ 7 (by decide)).mono ?_; rw [show pT 7 = true from rfl, show pC 7 = false from rfl, show pB 7 = 1048512 from rfl, show pE 7 = true from rfl]; rintro e w1 ⟨rfl, k1⟩; have E1 : Hid _ := (E0.out.calm k1).calm ((Keep.refl (fun _ => False) w1).alloc (.cells #[.bool true, .bool false, .int .i64 1048512, .bool true] 91)); have HK : Hid _ := (((Keep.refl (fun _ => False) w).alloc _).trans k1).alloc (.cells #[.bool true, .bool false, .int .i64 1048512, .bool true] 91); have HPp : Hid _ := heap_alloc_new w1 (.cells #[.bool true, .bool false, .int .i64 1048512, .bool true] 91); obtain ⟨g0, g1, g2⟩ := E1.out.cells; have Hr : Hid _ := E1.out.commit; clear k1) | (refine wl_loadG (by rfl) rfl rfl Hc.out Hr.out ?_; simp only [Act.put, List.setIfInBounds_toArray, List.set_cons_zero, List.set_cons_succ]) | (go_at_call 60; refine (Tp.check_any _ _ hT _ Hv.out).mono ?_; rintro e w2 ⟨rfl, k1⟩; have q := k1.get HPp.out (fun h => h); have p0 : w2.cell? ⟨w1.heap.size, 0, none⟩ = some (.bool true) := (by rw [cell_of q]; rfl); have p1 : w2.cell? ⟨w1.heap.size, 1, none⟩ = some (.bool false) := (by rw [cell_of q]; rfl); have p2 : w2.cell? ⟨w1.heap.size, 2, none⟩ = some (.int .i64 1048512) := (by rw [cell_of q]; rfl); have p3 : w2.cell? ⟨w1.heap.size, 3, none⟩ = some (.bool true) := (by rw [cell_of q]; rfl); clear q; have HK : Hid _ := HK.out.trans k1; have E1 : Hid _ := E1.out.calm k1; obtain ⟨g0, g1, g2⟩ := E1.out.cells; have Hr : Hid _ := E1.out.commit; clear k1))
      all_goals
        go_ret
        exact ⟨rfl, HK.out⟩
    · have Hv : Hid ((if tk T = 0 then (9 : Int) else 0) = 0) := (if_neg hk : (if tk T = 0 then (9 : Int) else 0) = 0)
      by_cases hm : 1048512 < B.size
      · have hb : B.size ≠ 0 := by omega
        have hb1 := list_ne hb
        have hb2 := list_ne2 hb
        have e : ck 7 T B c = 3 := by simp [ck, pT, pC, pB, pE, hz, hk, hm]; try omega
        rw [e]
        have Hc : Hid _ := hc
        have hgd := guard_id
        have E0 : Hid _ := EAt.new (K := 7) (T := T) (B := B) w hc
        generalize hX : (ec 7 T B c).toArray = X at E0 ⊢
        obtain ⟨g0, g1, g2⟩ := E0.out.cells
        have Hr : Hid _ := E0.out.commit
        clear e hX hc
        try clear hz
        go_enter Try.func23, Try.ntmps23
        go_wp2_with (first | (go_at_call 57; refine (of_any _ 7 (by decide)).mono ?_; rw [show pT 7 = true from rfl, show pC 7 = false from rfl, show pB 7 = 1048512 from rfl, show pE 7 = true from rfl]; rintro e w1 ⟨rfl, k1⟩; have E1 : Hid _ := (E0.out.calm k1).calm ((Keep.refl (fun _ => False) w1).alloc (.cells #[.bool true, .bool false, .int .i64 1048512, .bool true] 91)); have HK : Hid _ := (((Keep.refl (fun _ => False) w).alloc _).trans k1).alloc (.cells #[.bool true, .bool false, .int .i64 1048512, .bool true] 91); have HPp : Hid _ := heap_alloc_new w1 (.cells #[.bool true, .bool false, .int .i64 1048512, .bool true] 91); obtain ⟨g0, g1, g2⟩ := E1.out.cells; have Hr : Hid _ := E1.out.commit; clear k1) | (refine wl_loadG (by rfl) rfl rfl Hc.out Hr.out ?_; simp only [Act.put, List.setIfInBounds_toArray, List.set_cons_zero, List.set_cons_succ]) | (go_at_call 60; refine (Tp.check_any _ _ hT _ Hv.out).mono ?_; rintro e w2 ⟨rfl, k1⟩; have q := k1.get HPp.out (fun h => h); have p0 : w2.cell? ⟨w1.heap.size, 0, none⟩ = some (.bool true) := (by rw [cell_of q]; rfl); have p1 : w2.cell? ⟨w1.heap.size, 1, none⟩ = some (.bool false) := (by rw [cell_of q]; rfl); have p2 : w2.cell? ⟨w1.heap.size, 2, none⟩ = some (.int .i64 1048512) := (by rw [cell_of q]; rfl); have p3 : w2.cell? ⟨w1.heap.size, 3, none⟩ = some (.bool true) := (by rw [cell_of q]; rfl); clear q; have HK : Hid _ := HK.out.trans k1; have E1 : Hid _ := E1.out.calm k1; obtain ⟨g0, g1, g2⟩ := E1.out.cells; have Hr : Hid _ := E1.out.commit; clear k1))
        all_goals
          go_ret
          exact ⟨rfl, HK.out⟩
      · skip
        have e : ck 7 T B c = 0 := by simp [ck, pT, pC, pB, pE, hz, hk, hm]; try omega
        rw [e]
        have Hc : Hid _ := hc
        have hgd := guard_id
        have E0 : Hid _ := EAt.new (K := 7) (T := T) (B := B) w hc
        generalize hX : (ec 7 T B c).toArray = X at E0 ⊢
        obtain ⟨g0, g1, g2⟩ := E0.out.cells
        have Hr : Hid _ := E0.out.commit
        clear e hX hc
        try clear hz
        go_enter Try.func23, Try.ntmps23
        go_wp2_with (first | (go_at_call 57; refine (of_any _ 7 (by decide)).mono ?_; rw [show pT 7 = true from rfl, show pC 7 = false from rfl, show pB 7 = 1048512 from rfl, show pE 7 = true from rfl]; rintro e w1 ⟨rfl, k1⟩; have E1 : Hid _ := (E0.out.calm k1).calm ((Keep.refl (fun _ => False) w1).alloc (.cells #[.bool true, .bool false, .int .i64 1048512, .bool true] 91)); have HK : Hid _ := (((Keep.refl (fun _ => False) w).alloc _).trans k1).alloc (.cells #[.bool true, .bool false, .int .i64 1048512, .bool true] 91); have HPp : Hid _ := heap_alloc_new w1 (.cells #[.bool true, .bool false, .int .i64 1048512, .bool true] 91); obtain ⟨g0, g1, g2⟩ := E1.out.cells; have Hr : Hid _ := E1.out.commit; clear k1) | (refine wl_loadG (by rfl) rfl rfl Hc.out Hr.out ?_; simp only [Act.put, List.setIfInBounds_toArray, List.set_cons_zero, List.set_cons_succ]) | (go_at_call 60; refine (Tp.check_any _ _ hT _ Hv.out).mono ?_; rintro e w2 ⟨rfl, k1⟩; have q := k1.get HPp.out (fun h => h); have p0 : w2.cell? ⟨w1.heap.size, 0, none⟩ = some (.bool true) := (by rw [cell_of q]; rfl); have p1 : w2.cell? ⟨w1.heap.size, 1, none⟩ = some (.bool false) := (by rw [cell_of q]; rfl); have p2 : w2.cell? ⟨w1.heap.size, 2, none⟩ = some (.int .i64 1048512) := (by rw [cell_of q]; rfl); have p3 : w2.cell? ⟨w1.heap.size, 3, none⟩ = some (.bool true) := (by rw [cell_of q]; rfl); clear q; have HK : Hid _ := HK.out.trans k1; have E1 : Hid _ := E1.out.calm k1; obtain ⟨g0, g1, g2⟩ := E1.out.cells; have Hr : Hid _ := E1.out.commit; clear k1))
        all_goals
          go_ret
          exact ⟨rfl, HK.out⟩
  · have hcmp := neq_z c hc _ (ne_zt hz)
    have e : ck 7 T B c = 4 := by simp [ck, pT, pC, pB, pE, hz]; try omega
    rw [e]
    have Hc : Hid _ := hc
    have hgd := guard_id
    have E0 : Hid _ := EAt.new (K := 7) (T := T) (B := B) w hc
    generalize hX : (ec 7 T B c).toArray = X at E0 ⊢
    obtain ⟨g0, g1, g2⟩ := E0.out.cells
    have Hr : Hid _ := E0.out.commit
    clear e hX hc
    try clear hz
    go_enter Try.func23, Try.ntmps23
    go_wp2_with (first | (go_at_call 57; refine (of_any _ 7 (by decide)).mono ?_; rw [show pT 7 = true from rfl, show pC 7 = false from rfl, show pB 7 = 1048512 from rfl, show pE 7 = true from rfl]; rintro e w1 ⟨rfl, k1⟩; have E1 : Hid _ := (E0.out.calm k1).calm ((Keep.refl (fun _ => False) w1).alloc (.cells #[.bool true, .bool false, .int .i64 1048512, .bool true] 91)); have HK : Hid _ := (((Keep.refl (fun _ => False) w).alloc _).trans k1).alloc (.cells #[.bool true, .bool false, .int .i64 1048512, .bool true] 91); have HPp : Hid _ := heap_alloc_new w1 (.cells #[.bool true, .bool false, .int .i64 1048512, .bool true] 91); obtain ⟨g0, g1, g2⟩ := E1.out.cells; have Hr : Hid _ := E1.out.commit; clear k1) | (refine wl_loadG (by rfl) rfl rfl Hc.out Hr.out ?_; simp only [Act.put, List.setIfInBounds_toArray, List.set_cons_zero, List.set_cons_succ]) | (go_at_call 60; refine (Tp.check_any _ _ hT _ Hv.out).mono ?_; rintro e w2 ⟨rfl, k1⟩; have q := k1.get HPp.out (fun h => h); have p0 : w2.cell? ⟨w1.heap.size, 0, none⟩ = some (.bool true) := (by rw [cell_of q]; rfl); have p1 : w2.cell? ⟨w1.heap.size, 1, none⟩ = some (.bool false) := (by rw [cell_of q]; rfl); have p2 : w2.cell? ⟨w1.heap.size, 2, none⟩ = some (.int .i64 1048512) := (by rw [cell_of q]; rfl); have p3 : w2.cell? ⟨w1.heap.size, 3, none⟩ = some (.bool true) := (by rw [cell_of q]; rfl); clear q; have HK : Hid _ := HK.out.trans k1; have E1 : Hid _ := E1.out.calm k1; obtain ⟨g0, g1, g2⟩ := E1.out.cells; have Hr : Hid _ := E1.out.commit; clear k1))
    all_goals
      go_ret
      exact ⟨rfl, HK.out⟩
theorem check_any (w : World) (K : Int) (T B : ByteArray) (c : List UInt8) (hc : c.length = 32) (hT : T.size ≤ maxLen) (hB : B.size ≤ maxLen) :
    Calls Try.prog 23 #[.agg (ec K T B c).toArray] w fun e w' => e = .returned (.int .i64 (ck K T B c)) ∧ Keep (fun _ => False) w w' := by
  rcases (by omega : (K < 1 ∨ 7 < K) ∨ K = 1 ∨ K = 2 ∨ K = 3 ∨ K = 4 ∨ K = 5 ∨ K = 6 ∨ K = 7) with h | rfl | rfl | rfl | rfl | rfl | rfl | rfl
  · have e : ck K T B c = 10 := by unfold ck; rw [if_pos h]
    rw [e]
    exact check_none w K T B c hc h
  · exact check_1 w T B c hc hT hB
  · exact check_2 w T B c hc hT hB
  · exact check_3 w T B c hc hT hB
  · exact check_4 w T B c hc hT hB
  · exact check_5 w T B c hc hT hB
  · exact check_6 w T B c hc hT hB
  · exact check_7 w T B c hc hT hB
end En
end Go.Proofs.Ytmnmemeldjbifaa
