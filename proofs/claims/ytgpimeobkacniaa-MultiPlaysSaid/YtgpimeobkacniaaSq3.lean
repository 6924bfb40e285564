/-
  seq.hang: a node among those behind its ref.
-/
import Derived.Test.YtgpimeobkacniaaAhd
import Derived.Test.YtgpimeobkacniaaGIf
set_option linter.unusedVariables false
set_option linter.unusedSimpArgs false
namespace Go.Proofs.Ytgpimeobkacniaa
open Go.RowKit
namespace Sq
open Oct Ids Mp
open Mem (M It blk ids rows)
set_option maxRecDepth 100000 in
set_option maxHeartbeats 2000000 in
theorem concat3 (w : World) (b n c n2 c2 n3 c3 : Nat) (a a2 a3 : Option Addr) (l l2 l3 : List (List UInt8)) (hb : w.heap[b]? = some (.cells #[.slice a n c, .slice a2 n2 c2, .slice a3 n3 c3] 29 (0, 0))) (h1 : At w a n l) (h2 : At w a2 n2 l2) (h3 : At w a3 n3 l3) (hm : n + n2 + n3 ≤ 100000) :
    Calls Try.prog 115 #[.slice (some ⟨b, 0, none⟩) 3 3] w fun e w' => ∃ v, e = .returned v ∧ New w w' v (l ++ l2 ++ l3) := by
  have HB : Hid _ := hb
  have H1 : Hid (At w a n l) := h1
  have H2 : Hid (At w a2 n2 l2) := h2
  have H3 : Hid (At w a3 n3 l3) := h3
  have hc0 : w.cell? ⟨b, 0, none⟩ = some (.slice a n c) := by rw [cell_of hb]; rfl
  have hc1 : w.cell? ⟨b, 1, none⟩ = some (.slice a2 n2 c2) := by rw [cell_of hb]; rfl
  have hc2 : w.cell? ⟨b, 2, none⟩ = some (.slice a3 n3 c3) := by rw [cell_of hb]; rfl
  have hl1 : Hid (l.length = n) := h1.len
  have hl2 : Hid (l2.length = n2) := h2.len
  have hl3 : Hid (l3.length = n3) := h3.len
  clear hb h1 h2 h3
  have hg : Hid (Calls Try.prog 130 #[.slice none 0 0, .int .i64 ((n : Int) + (n2 : Int) + (n3 : Int))] w fun e w' => ∃ v, e = .returned v ∧ New w w' v []) := by
    show Calls _ _ _ _ _
    have := grow_nil w (n + n2 + n3) (by omega)
    push_cast at this
    exact this
  go_enter Try.func115, Try.ntmps115
  go_wp2
  refine wp_loop_rounds 4 ?_
  (repeat any_goals (rw [rounds_succ]; go_wp2_with (go_at_call 130; refine hg.out.mono ?_; rintro e w1 ⟨v, rfl, h1⟩; have N1 : Hid (New w w1 v []) := h1; have hd0 : w1.cell? ⟨b, 0, none⟩ = some (.slice a n c) := (by rw [cell_of (h1.2.1.get HB.out (fun h => h))]; rfl); have hd1 : w1.cell? ⟨b, 1, none⟩ = some (.slice a2 n2 c2) := (by rw [cell_of (h1.2.1.get HB.out (fun h => h))]; rfl); have hd2 : w1.cell? ⟨b, 2, none⟩ = some (.slice a3 n3 c3) := (by rw [cell_of (h1.2.1.get HB.out (fun h => h))]; rfl); clear h1)))
  refine wp_loop_rounds 4 ?_
  have A1 : Hid (At w1 a n l) := H1.out.calm N1.out.2.1
  have A2 : Hid (At w1 a2 n2 l2) := H2.out.calm N1.out.2.1
  (repeat any_goals (rw [rounds_succ]; go_wp2_with (first | (refine wl_appR rfl rfl rfl N1.out.1 rfl A1.out (by simp; omega) ?_; intro v2 w2 h1 h2 h3; have N2 : Hid (New w w2 v2 l) := (by have := N1.out.trans h2 h1 h3; exact this); have A2 : Hid (At w2 a2 n2 l2) := H2.out.calm N2.out.2.1; have hd1 : w2.cell? ⟨b, 1, none⟩ = some (.slice a2 n2 c2) := (by rw [cell_of (N2.out.2.1.get HB.out (fun h => h))]; rfl); have hd2 : w2.cell? ⟨b, 2, none⟩ = some (.slice a3 n3 c3) := (by rw [cell_of (N2.out.2.1.get HB.out (fun h => h))]; rfl); clear h1 h2 h3; simp only [Act.put, List.setIfInBounds_toArray, List.set_cons_zero, List.set_cons_succ]) | (refine wl_appR rfl rfl rfl N2.out.1 rfl A2.out (by have := hl1.out; omega) ?_; intro v3 w3 h1 h2 h3; have N3 : Hid (New w w3 v3 (l ++ l2)) := (by have := N2.out.trans h2 h1 h3; exact this); have A3 : Hid (At w3 a3 n3 l3) := H3.out.calm N3.out.2.1; have hd2 : w3.cell? ⟨b, 2, none⟩ = some (.slice a3 n3 c3) := (by rw [cell_of (N3.out.2.1.get HB.out (fun h => h))]; rfl); clear h1 h2 h3; simp only [Act.put, List.setIfInBounds_toArray, List.set_cons_zero, List.set_cons_succ]) | (refine wl_appR rfl rfl rfl N3.out.1 rfl A3.out (by have := hl1.out; have := hl2.out; rw [List.length_append]; omega) ?_; intro v4 w4 h1 h2 h3; have N4 : Hid (New w w4 v4 (l ++ l2 ++ l3)) := (by have := N3.out.trans h2 h1 h3; exact this); clear h1 h2 h3; simp only [Act.put, List.setIfInBounds_toArray, List.set_cons_zero, List.set_cons_succ]))))
  go_ret
  exact ⟨v4, rfl, N4.out⟩
end Sq
end Go.Proofs.Ytgpimeobkacniaa
