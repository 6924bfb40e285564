/-
  ident.sign, petrelref06.half. ident.Text, petrelref06.Text. ident.Parse, petrelref06.Parse.
-/
import Derived.Test.YtkoolpalhahigaaGIl
import Derived.Test.YtkoolpalhahigaaGId
import Derived.Test.YtkoolpalhahigaaGMm
set_option linter.unusedVariables false
set_option linter.unusedSimpArgs false

namespace Go.Proofs.Ytkoolpalhahigaa
open Go.RowKit
namespace Ids
open Oct
theorem sg_cases (c : UInt8) : (48 ≤ (c.toNat : Int) ∧ (c.toNat : Int) ≤ 57 ∧ Hex.sg c = c.toNat - 48) ∨ (97 ≤ (c.toNat : Int) ∧ (c.toNat : Int) ≤ 102 ∧ Hex.sg c = c.toNat - 87) ∨ (Hex.sg c = 16 ∧ (((c.toNat : Int) < 48) ∨ (57 < (c.toNat : Int) ∧ (c.toNat : Int) < 97) ∨ 102 < (c.toNat : Int))) := by
  unfold Hex.sg
  by_cases h1 : 48 ≤ c.toNat ∧ c.toNat ≤ 57
  · rw [if_pos h1]; exact .inl ⟨by omega, by omega, rfl⟩
  · rw [if_neg h1]
    by_cases h2 : 97 ≤ c.toNat ∧ c.toNat ≤ 102
    · rw [if_pos h2]; exact .inr (.inl ⟨by omega, by omega, rfl⟩)
    · rw [if_neg h2]; exact .inr (.inr ⟨rfl, by omega⟩)
set_option maxRecDepth 100000 in
theorem sign_yes (w : World) (c : UInt8) (h : Hex.sg c < 16) : Calls Try.prog 56 #[.int .u8 c.toNat] w fun e w' => e = .returned (.tuple #[.int .u8 (Hex.sg c), .bool true]) ∧ w = w' := by
  have hc := c.toNat_lt
  rcases sg_cases c with ⟨h1, h2, h3⟩ | ⟨h1, h2, h3⟩ | ⟨h3, h4⟩
  · have H3 : Hid _ := h3
    clear h3 h
    have hd : decide ((c.toNat : Int) ≤ 57) = true := decide_eq_true h2
    have hd1 : decide (48 ≤ (c.toNat : Int)) = true := decide_eq_true h1
    go_enter Try.func56, Try.ntmps56
    go_wp2
    go_ret2
    exact ⟨by rw [H3.out, show ((c.toNat - 48 : Nat) : Int) = (c.toNat : Int) - 48 by omega]; rfl, rfl⟩
  · have H3 : Hid _ := h3
    clear h3 h
    have hd : decide ((c.toNat : Int) ≤ 57) = false := decide_eq_false (by omega)
    have hd1 : decide (48 ≤ (c.toNat : Int)) = true := decide_eq_true (by omega)
    have hd2 : decide ((c.toNat : Int) ≤ 102) = true := decide_eq_true h2
    have hd3 : decide (97 ≤ (c.toNat : Int)) = true := decide_eq_true h1
    go_enter Try.func56, Try.ntmps56
    go_wp2
    go_ret2
    exact ⟨by rw [H3.out, show ((c.toNat - 87 : Nat) : Int) = (c.toNat : Int) - 97 + 10 by omega]; rfl, rfl⟩
  · omega
set_option maxRecDepth 100000 in
theorem sign_no (w : World) (c : UInt8) (h : ¬ Hex.sg c < 16) : Calls Try.prog 56 #[.int .u8 c.toNat] w fun e w' => e = .returned (.tuple #[.int .u8 0, .bool false]) ∧ w = w' := by
  have hc := c.toNat_lt
  rcases sg_cases c with ⟨h1, h2, h3⟩ | ⟨h1, h2, h3⟩ | ⟨h3, h4⟩
  · omega
  · omega
  · clear h3 h
    rcases h4 with h | h | h
    all_goals
      first | (have hd1 : decide (48 ≤ (c.toNat : Int)) = false := decide_eq_false (by omega)) | skip
      first | (have hd1 : decide ((c.toNat : Int) ≤ 57) = false := decide_eq_false (by omega)) | skip
      first | (have hd1 : decide (97 ≤ (c.toNat : Int)) = false := decide_eq_false (by omega)) | skip
      first | (have hd1 : decide ((c.toNat : Int) ≤ 102) = false := decide_eq_false (by omega)) | skip
      go_enter Try.func56, Try.ntmps56
      go_wp2
      go_ret2
      exact ⟨rfl, rfl⟩
set_option maxRecDepth 100000 in
theorem half_yes (w : World) (c : UInt8) (h : Hex.sg c < 16) : Calls Try.prog 57 #[.int .u8 c.toNat] w fun e w' => e = .returned (.int .i64 (Hex.sg c)) ∧ w = w' := by
  have hc := c.toNat_lt
  rcases sg_cases c with ⟨h1, h2, h3⟩ | ⟨h1, h2, h3⟩ | ⟨h3, h4⟩
  · have H3 : Hid _ := h3
    clear h3 h
    have hd : decide ((c.toNat : Int) ≤ 57) = true := decide_eq_true h2
    have hd1 : decide (48 ≤ (c.toNat : Int)) = true := decide_eq_true h1
    go_enter Try.func57, Try.ntmps57
    go_wp2
    go_ret
    exact ⟨by rw [H3.out, show ((c.toNat - 48 : Nat) : Int) = (c.toNat : Int) - 48 by omega]; rfl, rfl⟩
  · have H3 : Hid _ := h3
    clear h3 h
    have hd : decide ((c.toNat : Int) ≤ 57) = false := decide_eq_false (by omega)
    have hd1 : decide (48 ≤ (c.toNat : Int)) = true := decide_eq_true (by omega)
    have hd2 : decide ((c.toNat : Int) ≤ 102) = true := decide_eq_true h2
    have hd3 : decide (97 ≤ (c.toNat : Int)) = true := decide_eq_true h1
    go_enter Try.func57, Try.ntmps57
    go_wp2
    go_ret
    exact ⟨by rw [H3.out, show ((c.toNat - 87 : Nat) : Int) = (c.toNat : Int) - 87 by omega]; rfl, rfl⟩
  · omega
set_option maxRecDepth 100000 in
theorem half_no (w : World) (c : UInt8) (h : ¬ Hex.sg c < 16) : Calls Try.prog 57 #[.int .u8 c.toNat] w fun e w' => e = .returned (.int .i64 (-1)) ∧ w = w' := by
  have hc := c.toNat_lt
  rcases sg_cases c with ⟨h1, h2, h3⟩ | ⟨h1, h2, h3⟩ | ⟨h3, h4⟩
  · omega
  · omega
  · clear h3 h
    rcases h4 with h | h | h
    all_goals
      first | (have hd1 : decide (48 ≤ (c.toNat : Int)) = false := decide_eq_false (by omega)) | skip
      first | (have hd1 : decide ((c.toNat : Int) ≤ 57) = false := decide_eq_false (by omega)) | skip
      first | (have hd1 : decide (97 ≤ (c.toNat : Int)) = false := decide_eq_false (by omega)) | skip
      first | (have hd1 : decide ((c.toNat : Int) ≤ 102) = false := decide_eq_false (by omega)) | skip
      go_enter Try.func57, Try.ntmps57
      go_wp2
      go_ret
      exact ⟨rfl, rfl⟩
end Ids
end Go.Proofs.Ytkoolpalhahigaa


namespace Go.Proofs.Ytkoolpalhahigaa
open Go.RowKit
namespace Byt
open Oct
section
variable {ops : Array Oper} {rest : List Oper} {o : Oper} {a : Act} {w : World} {K : Act → World → Prop} {Q : Exit → Act → World → Prop}
/-- 'make([]byte, 0, n)'. -/
theorem wl_make0 (hgd : o.guard = none) {l c : Operand} (ho : o.op = .makeSlice 23 l c) {C : Int} {n : Nat} (hl : a.eval l = .int .i64 0) (hc : a.eval c = .int .i64 C) (hC : C = (n : Int)) (hn : n ≤ 1000000) {b : Nat} (hb : w.heap.size = b)
    (h : ∀ w', Own w' (.slice (some ⟨b, 0, none⟩) 0 n) [] → Keep (fun _ => False) w w' → wpList Try.prog ops Q rest (a.put o.dst (.slice (some ⟨b, 0, none⟩) 0 n)) w') : wpList Try.prog ops Q (o :: rest) a w := by
  subst hb
  obtain ⟨i, hi, hz, hs, hby⟩ := slU8.info
  refine wpList_make_own w hgd l c 23 ho 0 5 i (.int .u8 0) 1 slU8.und hi hz hs .i64 .i64 C n hl hc hC (by rw [hby]; omega) (by unfold maxLen; omega) (Nat.zero_le _) ?_
  intro w' h1 h2
  exact h w' ⟨h1⟩ ((Keep.refl _ w).grown h2 (fun k hk => by cases hk))
/-- 'append(out, c, d)'. -/
theorem wp_app2 {s x : Operand} (ho : o.op = .call { callee := .builtin .append, args := #[s, x], argTypes := #[23, 23] }) {v : Value} {bs : List UInt8} (hs : a.eval s = v) (hown : Own w v bs)
    {g : Nat} (hx : a.eval x = .slice (some ⟨g, 0, none⟩) 2 2) {c d : UInt8} {fr : Nat × Nat} (hg : w.heap[g]? = some (.cells #[bv c, bv d] 5 fr)) (hm : bs.length ≤ 1000000)
    (h : ∀ v' w', Own w' v' (bs ++ [c, d]) → Keep (fun k => v.ownBlock = some k) w w' → (v'.ownBlock = v.ownBlock ∨ v'.ownBlock = some w.heap.size) → K (a.put o.dst v') w') : o.wp Try.prog a w K Q := by
  refine wp_app slU8 ho (xs := bs.map bv) (v := v) (n := bs.length) hs hown.own [bv c, bv d] hx (by simp) (World.news_of_block hg) (by simp [bv, Value.oneCell']) (by unfold maxLen; omega) (by omega) ?_
  intro v' w' hA
  refine h v' w' ⟨?_⟩ hA.keep hA.at_
  have e := hA.own
  rw [show bs.map bv ++ [bv c, bv d] = (bs ++ [c, d]).map bv by simp] at e
  simpa using e
end
end Byt
namespace Ids
open Oct Byt
theorem index_id (w : World) (x : List UInt8) (hx : x.length = 32) (k : Nat) (c : UInt8) (hk : x[k]? = some c) : Sem.run Try.prog (Instr.index 26 (idv x) (.int .i64 k)) w = .ok (bv c) w := by
  have hl := (List.getElem?_eq_some_iff.1 hk).1
  have h0 : (k : Int) < 32 := by omega
  have h1 : ¬ 32 ≤ k := by omega
  simp [Instr.index, run_underlying Try.underlying26, idv, h0, part, sz8, asIntOf, hk, h1]
theorem hex_at (kd : IntKind) (k : Nat) (hk : k < 16) (w : World) : Sem.run Try.prog (Instr.index 9 (.string ⟨#[48, 49, 50, 51, 52, 53, 54, 55, 56, 57, 97, 98, 99, 100, 101, 102]⟩) (.int kd k)) w = .ok (bv (Hex.dig k)) w := by
  have : k = 0 ∨ k = 1 ∨ k = 2 ∨ k = 3 ∨ k = 4 ∨ k = 5 ∨ k = 6 ∨ k = 7 ∨ k = 8 ∨ k = 9 ∨ k = 10 ∨ k = 11 ∨ k = 12 ∨ k = 13 ∨ k = 14 ∨ k = 15 := by omega
  rcases this with rfl | rfl | rfl | rfl | rfl | rfl | rfl | rfl | rfl | rfl | rfl | rfl | rfl | rfl | rfl | rfl
  all_goals simp [Instr.index, run_underlying Try.underlying9, asIntOf]
  all_goals rfl
theorem and15 : ∀ n : Nat, n < 256 → bits BinOp.and IntKind.u8 (n : Int) 15 = (n : Int) % 16 := by decide +kernel
theorem or4 : ∀ c : Nat, c < 16 → ∀ d : Nat, d < 16 → bits BinOp.or IntKind.u8 ((c : Int) * 16) (d : Int) = (c : Int) * 16 + d := by decide +kernel
def GrB (w0 w : World) (v : Value) : Prop := Keep (fun _ => False) w0 w ∧ ∀ k, v.ownBlock = some k → w0.heap.size ≤ k
theorem grB_app {w0 w w' : World} {v v' : Value} (h : GrB w0 w v) (k : Keep (fun k => v.ownBlock = some k) w w') (ha : v'.ownBlock = v.ownBlock ∨ v'.ownBlock = some w.heap.size) : GrB w0 w' v' := by
  refine ⟨h.1.trans' k (fun _ _ h => h) (fun k hk e => by have := h.2 k e; omega), fun k hk => ?_⟩
  rcases ha with e | e
  · exact h.2 k (by rw [← e]; exact hk)
  · rw [e] at hk; have := Option.some.inj hk; have := h.1.size; omega
theorem hex_step {x : List UInt8} {k : Nat} {c : UInt8} (h : x[k]? = some c) : Hex.txt (x.take (k + 1)) = Hex.txt (x.take k) ++ [Hex.dig (c.toNat / 16), Hex.dig (c.toNat % 16)] := by
  rw [List.take_add_one, h, ← Hex.txt_snoc]; rfl
set_option maxRecDepth 100000 in
set_option maxHeartbeats 1000000 in
theorem text_any (w : World) (x : List UInt8) (hx : x.length = 32) : Calls Try.prog 19 #[idv x] w fun e w' => e = .returned (.string ⟨(Hex.txt x).toArray⟩) ∧ Keep (fun _ => False) w w' := by
  have Lx : Hid (x.length = 32) := hx
  clear hx
  go_enter Try.func19, Try.ntmps19
  go_wp2_with (first | (refine wl_load rfl rfl rfl Lx.out (K1.out.range (by simp) (fun h => h) (range_new w _ _)) ?_; simp only [Act.put, List.setIfInBounds_toArray, List.set_cons_zero, List.set_cons_succ]) | (refine wl_make0 (n := 64) rfl rfl rfl rfl rfl (by omega) (by simp; rfl) ?_; intro w1 h1 k1; have O1 : Hid _ := h1; have K1 : Hid _ := k1; clear h1 k1; simp only [Act.put, List.setIfInBounds_toArray, List.set_cons_zero, List.set_cons_succ]))
  go_loopw [3, 5, 8] (fun v c i wr => ∃ k : Nat, k ≤ 32 ∧ i = .int .i64 k ∧ Byt.Own wr v (Hex.txt (x.take k)) ∧ GrB w wr v) (fun _ _ i _ => 32 - (intOf i).toNat)
  case atStart => exact ⟨0, by omega, rfl, O1.out, ((Keep.refl _ _).alloc _).trans K1.out, fun k hk => by have e : w.heap.size + 1 = k := Option.some.inj hk; omega⟩
  case round =>
    obtain ⟨k, hk, rfl, ho, hg⟩ := hrel
    have HO : Hid (Byt.Own wr u3 (Hex.txt (x.take k))) := ho
    have HG : Hid (GrB w wr u3) := hg
    clear ho hg
    by_cases hlt : k < 32
    · obtain ⟨c, hc⟩ : ∃ c, x[k]? = some c := ⟨_, List.getElem?_eq_getElem (by rw [Lx.out]; exact hlt)⟩
      have hix : ∀ w, Sem.run Try.prog (Instr.index 26 (idv x) (.int .i64 k)) w = .ok (.int .u8 c.toNat) w := fun w => index_id w x Lx.out k c hc
      have Hc : Hid _ := hc
      have hcl := c.toNat_lt
      clear hc
      have hA : ∀ w, Sem.run Try.prog (Instr.index 9 (.string ⟨#[48, 49, 50, 51, 52, 53, 54, 55, 56, 57, 97, 98, 99, 100, 101, 102]⟩) (.int .u8 ((c.toNat : Int) / 16))) w = .ok (bv (Hex.dig (c.toNat / 16))) w := fun w => by have := hex_at .u8 (c.toNat / 16) (by omega) w; push_cast at this; exact this
      have hB : ∀ w, Sem.run Try.prog (Instr.index 9 (.string ⟨#[48, 49, 50, 51, 52, 53, 54, 55, 56, 57, 97, 98, 99, 100, 101, 102]⟩) (.int .u8 ((c.toNat : Int) % 16))) w = .ok (bv (Hex.dig (c.toNat % 16))) w := fun w => by have := hex_at .u8 (c.toNat % 16) (by omega) w; push_cast at this; exact this
      have hand : bits BinOp.and IntKind.u8 (c.toNat : Int) 15 = (c.toNat : Int) % 16 := and15 _ hcl
      have HS : Hid _ := hex_step Hc.out
      have Hl : Hid ((Hex.txt (x.take k)).length ≤ 1000000) := by show _ ≤ _; rw [Hex.txt_len, List.length_take]; omega
      generalize Hex.dig (c.toNat / 16) = A at *
      generalize Hex.dig (c.toNat % 16) = B at *
      go_wp2
      refine Txt.wp_region_text (fun _ => True) [0, 0, 0, 0, 0, 0, 0, 3, 4, 0] (by kernel_rfl) (by kernel_rfl) trivial ?_
      repeat (first
        | (refine Txt.tl_pure (v := ?_) (by rfl) ?_ ?_; rotate_left; (focus (intro _; go_simp; try with_reducible rfl)); simp only [Act.put, List.setIfInBounds_toArray, List.set_cons_zero, List.set_cons_succ])
        | (refine Txt.tl_skip (by rfl) trivial ?_; simp only [Act.put, List.setIfInBounds_toArray, List.set_cons_zero, List.set_cons_succ])
        | (refine Txt.tl_load (v := ?_) (by rfl) (by rfl) (by rfl) (by kernel_rfl) ?_ ?_; rotate_left; (focus (first | assumption | (go_simp; done) | (go_simp; with_reducible rfl))); simp only [Act.put, List.setIfInBounds_toArray, List.set_cons_zero, List.set_cons_succ])
        | (refine Txt.tl_alloc (by rfl) ?_; go_simp; refine ⟨by (first | exact Txt.Le.alloc_drew _ _ | exact Txt.Le.alloc _ _), ?_⟩))
      refine Txt.tl_loud (by rfl) ?_
      refine Byt.wp_app2 (by rfl) (by rfl) (((HO.out.calm ((Keep.refl _ _).drew)).calm ((Keep.refl _ _).alloc _))) (by rfl) (heap_alloc_new _ _) Hl.out ?_
      intro v' w4 h1 h2 h3
      have O4 : Hid (Byt.Own w4 v' (Hex.txt (x.take k) ++ [A, B])) := h1
      have G4 : Hid (GrB w w4 v') := grB_app ⟨HG.out.1.drew.alloc _, HG.out.2⟩ h2 h3
      clear h1 h2 h3
      refine ⟨trivial, ?_⟩
      simp only [Act.put, List.setIfInBounds_toArray, List.set_cons_zero, List.set_cons_succ]
      repeat (first
        | (refine Txt.tl_pure (v := ?_) (by rfl) ?_ ?_; rotate_left; (focus (intro _; go_simp; try with_reducible rfl)); simp only [Act.put, List.setIfInBounds_toArray, List.set_cons_zero, List.set_cons_succ])
        | (refine Txt.tl_skip (by rfl) trivial ?_; simp only [Act.put, List.setIfInBounds_toArray, List.set_cons_zero, List.set_cons_succ])
        | (refine Txt.tl_load (v := ?_) (by rfl) (by rfl) (by rfl) (by kernel_rfl) ?_ ?_; rotate_left; (focus (first | assumption | (go_simp; done) | (go_simp; with_reducible rfl))); simp only [Act.put, List.setIfInBounds_toArray, List.set_cons_zero, List.set_cons_succ])
        | (refine Txt.tl_alloc (by rfl) ?_; go_simp; refine ⟨by (first | exact Txt.Le.alloc_drew _ _ | exact Txt.Le.alloc _ _), ?_⟩))
      refine Txt.tl_nil ?_
      go_wp2
      go_roundw
      case rel => exact ⟨k + 1, by omega, rfl, by rw [HS.out]; exact O4.out, G4.out⟩
      case measure => simp [intOf]; omega
    · obtain rfl : k = 32 := by omega
      have e : x.take 32 = x := List.take_of_length_le (by rw [Lx.out]; omega)
      have HS := HO.out.str
      rw [e] at HS
      clear e
      go_wp2
      go_ret
      exact ⟨rfl, HG.out.1⟩
set_option maxRecDepth 100000 in
set_option maxHeartbeats 1000000 in
theorem xtext_any (w : World) (x : List UInt8) (hx : x.length = 32) : Calls Try.prog 21 #[idv x] w fun e w' => e = .returned (.string ⟨(Hex.txt x).toArray⟩) ∧ Keep (fun _ => False) w w' := by
  have Lx : Hid (x.length = 32) := hx
  clear hx
  go_enter Try.func21, Try.ntmps21
  go_wp2
  go_loopw [4, 5] (fun v i wr => ∃ k : Nat, k ≤ 32 ∧ i = .int .i64 k ∧ Byt.Own wr v (Hex.txt (x.take k)) ∧ GrB (w.alloc (.cells (x.map bv).toArray 26)) wr v) (fun _ i _ => 32 - (intOf i).toNat)
  case atStart => exact ⟨0, by omega, rfl, Byt.Own.nil _, Keep.refl _ _, fun k hk => by simp [Value.ownBlock] at hk⟩
  case round =>
    obtain ⟨k, hk, rfl, ho, hg⟩ := hrel
    have HO : Hid (Byt.Own wr u4 (Hex.txt (x.take k))) := ho
    have HG : Hid (GrB (w.alloc (.cells (x.map bv).toArray 26)) wr u4) := hg
    clear ho hg
    by_cases hlt : k < 32
    · obtain ⟨c, hc⟩ : ∃ c, x[k]? = some c := ⟨_, List.getElem?_eq_getElem (by rw [Lx.out]; exact hlt)⟩
      have hrg : Hid (wr.rangeAt w.heap.size 0 (x.map bv)) := HG.out.1.range (by simp) (fun h => h) (range_new w _ _)
      have hcell : wr.cell? ⟨w.heap.size, k, none⟩ = some (.int .u8 c.toNat) := by
        have := hrg.out k (bv c) (by rw [List.getElem?_map, hc]; rfl)
        rwa [Nat.zero_add] at this
      have Hc : Hid _ := hc
      have hcl := c.toNat_lt
      have hA : ∀ w, Sem.run Try.prog (Instr.index 9 (.string ⟨#[48, 49, 50, 51, 52, 53, 54, 55, 56, 57, 97, 98, 99, 100, 101, 102]⟩) (.int .i64 ((c.toNat : Int) / 16))) w = .ok (bv (Hex.dig (c.toNat / 16))) w := fun w => by have := hex_at .i64 (c.toNat / 16) (by omega) w; push_cast at this; exact this
      have hB : ∀ w, Sem.run Try.prog (Instr.index 9 (.string ⟨#[48, 49, 50, 51, 52, 53, 54, 55, 56, 57, 97, 98, 99, 100, 101, 102]⟩) (.int .i64 ((c.toNat : Int) % 16))) w = .ok (bv (Hex.dig (c.toNat % 16))) w := fun w => by have := hex_at .i64 (c.toNat % 16) (by omega) w; push_cast at this; exact this
      have hw0 : IntKind.i64.wrap (c.toNat : Int) = (c.toNat : Int) := IntWalk.i64_in _ (by omega)
      have hq : (c.toNat : Int).tdiv 16 = (c.toNat : Int) / 16 := Int.tdiv_eq_ediv_of_nonneg (by omega)
      have hr : (c.toNat : Int).tmod 16 = (c.toNat : Int) % 16 := Int.tmod_eq_emod_of_nonneg (by omega)
      have hw1 : IntKind.i64.wrap ((c.toNat : Int) / 16) = (c.toNat : Int) / 16 := IntWalk.i64_in _ (by omega)
      have hw2 : IntKind.i64.wrap ((c.toNat : Int) % 16) = (c.toNat : Int) % 16 := IntWalk.i64_in _ (by omega)
      have HS : Hid _ := hex_step Hc.out
      have Hl : Hid ((Hex.txt (x.take k)).length ≤ 1000000) := by show _ ≤ _; rw [Hex.txt_len, List.length_take]; omega
      generalize Hex.dig (c.toNat / 16) = A at *
      generalize Hex.dig (c.toNat % 16) = B at *
      clear hc
      go_wp2
      refine Txt.wp_region_text (fun _ => True) [0, 0, 0, 0, 1, 0, 0, 0, 0, 0, 0, 1, 0, 0, 0, 3, 4, 0] (by kernel_rfl) (by kernel_rfl) trivial ?_
      repeat (first
        | (refine Txt.tl_pure (v := ?_) (by rfl) ?_ ?_; rotate_left; (focus (intro _; go_simp; try with_reducible rfl)); simp only [Act.put, List.setIfInBounds_toArray, List.set_cons_zero, List.set_cons_succ])
        | (refine Txt.tl_skip (by rfl) trivial ?_; simp only [Act.put, List.setIfInBounds_toArray, List.set_cons_zero, List.set_cons_succ])
        | (refine Txt.tl_load (v := ?_) (by rfl) (by rfl) (by rfl) (by kernel_rfl) ?_ ?_; rotate_left; (focus (first | assumption | (go_simp; done) | (go_simp; with_reducible rfl))); simp only [Act.put, List.setIfInBounds_toArray, List.set_cons_zero, List.set_cons_succ])
        | (refine Txt.tl_alloc (by rfl) ?_; go_simp; refine ⟨by (first | exact Txt.Le.alloc_drew _ _ | exact Txt.Le.alloc _ _), ?_⟩))
      refine Txt.tl_loud (by rfl) ?_
      refine Byt.wp_app2 (by rfl) (by rfl) (((HO.out.calm ((Keep.refl _ _).drew)).calm ((Keep.refl _ _).alloc _))) (by rfl) (heap_alloc_new _ _) Hl.out ?_
      intro v' w4 h1 h2 h3
      have O4 : Hid (Byt.Own w4 v' (Hex.txt (x.take k) ++ [A, B])) := h1
      have G4 : Hid (GrB (w.alloc (.cells (x.map bv).toArray 26)) w4 v') := grB_app ⟨HG.out.1.drew.alloc _, HG.out.2⟩ h2 h3
      clear h1 h2 h3
      refine ⟨trivial, ?_⟩
      simp only [Act.put, List.setIfInBounds_toArray, List.set_cons_zero, List.set_cons_succ]
      repeat (first
        | (refine Txt.tl_pure (v := ?_) (by rfl) ?_ ?_; rotate_left; (focus (intro _; go_simp; try with_reducible rfl)); simp only [Act.put, List.setIfInBounds_toArray, List.set_cons_zero, List.set_cons_succ])
        | (refine Txt.tl_skip (by rfl) trivial ?_; simp only [Act.put, List.setIfInBounds_toArray, List.set_cons_zero, List.set_cons_succ])
        | (refine Txt.tl_load (v := ?_) (by rfl) (by rfl) (by rfl) (by kernel_rfl) ?_ ?_; rotate_left; (focus (first | assumption | (go_simp; done) | (go_simp; with_reducible rfl))); simp only [Act.put, List.setIfInBounds_toArray, List.set_cons_zero, List.set_cons_succ])
        | (refine Txt.tl_alloc (by rfl) ?_; go_simp; refine ⟨by (first | exact Txt.Le.alloc_drew _ _ | exact Txt.Le.alloc _ _), ?_⟩))
      refine Txt.tl_nil ?_
      go_wp2
      go_roundw
      case rel => exact ⟨k + 1, by omega, rfl, by rw [HS.out]; exact O4.out, G4.out⟩
      case measure => simp [intOf]; omega
    · obtain rfl : k = 32 := by omega
      have e : x.take 32 = x := List.take_of_length_le (by rw [Lx.out]; omega)
      have HS := HO.out.str
      rw [e] at HS
      clear e
      go_wp2
      go_ret
      exact ⟨rfl, ((Keep.refl _ _).alloc _).trans HG.out.1⟩
end Ids
end Go.Proofs.Ytkoolpalhahigaa


namespace Go.Proofs.Ytkoolpalhahigaa
open Go.RowKit
namespace Ids
open Oct Mem
theorem tyIdP : St.Ty 26 32 z32 := ⟨⟨_, Try.underlying26, rfl⟩, by kernel_rfl, rfl⟩
theorem hi_at (s : ByteArray) (k : Nat) (h : 2 * k < s.size) : Hex.hi s.data.toList k = s[2 * k] := by
  unfold Hex.hi
  rw [List.getD_eq_getElem?_getD, List.getElem?_eq_getElem (by simpa using h)]; rfl
theorem lo_at (s : ByteArray) (k : Nat) (h : 2 * k + 1 < s.size) : Hex.lo s.data.toList k = s[2 * k + 1] := by
  unfold Hex.lo
  rw [List.getD_eq_getElem?_getD, List.getElem?_eq_getElem (by simpa using h)]; rfl
/-- The cells of an id, of which k are read. -/
def rdc (l : List UInt8) (k : Nat) : Array Value := ((Hex.val l k ++ List.replicate (32 - k) 0).map bv).toArray
theorem rdc_size (l : List UInt8) (k : Nat) (h : k ≤ 32) : (rdc l k).size = 32 := by simp [rdc, Hex.val_len]; omega
theorem rdc_zero (l : List UInt8) : rdc l 0 = z32 := by
  apply Array.ext'
  rw [z32_list]
  simp [rdc, Hex.val]
theorem rdc_full (l : List UInt8) : rdc l 32 = ((Hex.val l 32).map bv).toArray := by simp [rdc]
theorem rdc_at (l : List UInt8) (k : Nat) (h : k < 32) : (rdc l k)[k]? = some (.int .u8 0) := by
  unfold rdc
  rw [List.getElem?_toArray, List.getElem?_map, List.getElem?_append_right (by rw [Hex.val_len]; omega), Hex.val_len, Nat.sub_self, List.getElem?_replicate, if_pos (by omega)]
  rfl
theorem rdc_set (l : List UInt8) (k : Nat) (h : k < 32) (v : Nat) (hv : v = 16 * Hex.sg (Hex.hi l k) + Hex.sg (Hex.lo l k)) (hb : v < 256) : (rdc l k).setIfInBounds k (.int .u8 (v : Int)) = rdc l (k + 1) := by
  apply Array.ext'
  unfold rdc
  have e1 : List.replicate (32 - k) (0 : UInt8) = 0 :: List.replicate (32 - (k + 1)) 0 := by
    rw [show 32 - k = 32 - (k + 1) + 1 by omega]; rfl
  have e2 : Value.int .u8 (v : Int) = bv (UInt8.ofNat v) := by
    unfold bv
    rw [UInt8.toNat_ofNat', Nat.mod_eq_of_lt (by simpa using hb)]
  rw [Array.toList_setIfInBounds, e1, Hex.val_succ, ← hv, e2]
  simp only [List.map_append, List.map_cons, List.map_nil, List.append_assoc, List.singleton_append, List.cons_append, List.nil_append]
  rw [List.set_append_right _ _ (by simp [Hex.val_len])]
  simp [Hex.val_len]
set_option maxRecDepth 100000 in
set_option maxHeartbeats 2000000 in
theorem parse_long (w : World) (s : ByteArray) (hs : s.size ≤ maxLen) (h : s.size ≠ 64) : Calls Try.prog 17 #[.string s] w fun e w' => e = .returned (.tuple #[idv (List.replicate 32 0), .int .i64 4]) ∧ Keep (fun _ => False) w w' := by
  have hd : ((s.size : Int) != 64) = true := by simp; omega
  have M0 : Hid (M (fun _ => False) w w []) := M.start _ w
  unfold maxLen at hs
  go_enter Try.func17, Try.ntmps17
  go_wp2_with (first | (refine St.wl_alloc tyIdP rfl rfl (by (try simp only [World.size_alloc]); rfl) ?_; have M0 : Hid _ := M0.out.alloc (.cells z32 26) (by (try simp only [World.size_alloc]); rfl); simp only [Act.put, List.setIfInBounds_toArray, List.set_cons_zero, List.set_cons_succ]) | (refine St.wl_buildV rfl rfl (cs := z32) (by kernel_rfl) ?_; simp only [Act.put, List.setIfInBounds_toArray, List.set_cons_zero, List.set_cons_succ]) | (refine St.wl_store tyIdP rfl rfl rfl rfl rfl (cs := z32) rfl (one_bv (List.replicate 32 0)) (M0.out.get 0 rfl) rfl ?_; have M0 : Hid _ := M0.out.setr 0 rfl z32))
  refine bodyPost_ret (St.res2 tyIdP rfl _ _ _ z32 rfl rfl (M0.out.get 0 rfl) _ rfl) rfl ?_
  exact ⟨rfl, M0.out.keep⟩
theorem sg_lt (c : UInt8) : Hex.sg c ≤ 16 := by
  have := c.toNat_lt
  rcases sg_cases c with ⟨_, _, h⟩ | ⟨_, _, h⟩ | ⟨h, _⟩ <;> omega
theorem parse_bad {l : List UInt8} {k : Nat} (hk : k < 32) (h : ¬ (Hex.sg (Hex.hi l k) < 16 ∧ Hex.sg (Hex.lo l k) < 16)) : Hex.parse l = (List.replicate 32 0, 4) := by
  unfold Hex.parse
  rw [if_neg (fun e => by rw [Hex.okB_bad l k h 32 hk] at e; simp at e)]
theorem parse_ok {l : List UInt8} (hl : l.length = 64) (h : Hex.okB l 32 = true) : Hex.parse l = (Hex.val l 32, 0) := by
  unfold Hex.parse
  rw [if_pos ⟨hl, h⟩]
theorem rdc_set_or (l : List UInt8) (k : Nat) (h : k < 32) (c d : UInt8) (hc : Hex.hi l k = c) (hd : Hex.lo l k = d) (h1 : Hex.sg c < 16) (h2 : Hex.sg d < 16) : (rdc l k).setIfInBounds k (.int .u8 (bits BinOp.or IntKind.u8 ((Hex.sg c : Int) * 16) (Hex.sg d : Int))) = rdc l (k + 1) := by
  rw [or4 _ h1 _ h2]
  have := rdc_set l k h (16 * Hex.sg c + Hex.sg d) (by rw [hc, hd]) (by omega)
  rw [← this]
  congr 2
  push_cast
  omega
theorem rdc_set_add (l : List UInt8) (k : Nat) (h : k < 32) (c d : UInt8) (hc : Hex.hi l k = c) (hd : Hex.lo l k = d) (h1 : Hex.sg c < 16) (h2 : Hex.sg d < 16) : (rdc l k).setIfInBounds k (.int .u8 (16 * (Hex.sg c : Int) + (Hex.sg d : Int))) = rdc l (k + 1) := by
  have := rdc_set l k h (16 * Hex.sg c + Hex.sg d) (by rw [hc, hd]) (by omega)
  rw [← this]
  congr 2
set_option maxRecDepth 100000 in
set_option maxHeartbeats 4000000 in
theorem parse_64 (w : World) (s : ByteArray) (h : s.size = 64) : Calls Try.prog 17 #[.string s] w fun e w' => e = .returned (.tuple #[idv (Hex.parse s.data.toList).1, .int .i64 (Hex.parse s.data.toList).2]) ∧ Keep (fun _ => False) w w' := by
  have hd : ((s.size : Int) != 64) = false := by simp; omega
  have M0 : Hid (M (fun _ => False) w w []) := M.start _ w
  have HZ : Hid (s.size = 64) := h
  have HL : Hid (s.data.toList.length = 64) := by show _ = _; rw [Array.length_toList]; exact h
  have R0 : Hid (rdc s.data.toList 0 = z32) := rdc_zero _
  have hsz : s.size ≤ 64 := by omega
  have hsz2 : 64 ≤ s.size := by omega
  clear h
  go_enter Try.func17, Try.ntmps17
  go_wp2_with (first | (refine St.wl_alloc tyIdP rfl rfl (by (try simp only [World.size_alloc]); rfl) ?_; have M0 : Hid _ := M0.out.alloc (.cells z32 26) (by (try simp only [World.size_alloc]); rfl); simp only [Act.put, List.setIfInBounds_toArray, List.set_cons_zero, List.set_cons_succ]))
  go_loopw [14] (fun i wr => ∃ k : Nat, k ≤ 32 ∧ i = .int .i64 k ∧ Hex.okB s.data.toList k = true ∧ M (fun _ => False) w wr [blk w.heap.size (.cells z32 26), blk (w.heap.size + 1) (.cells (rdc s.data.toList k) 26)]) (fun i _ => 32 - (intOf i).toNat)
  case atStart => exact ⟨0, by omega, rfl, rfl, by rw [R0.out]; exact M0.out⟩
  case round =>
    obtain ⟨k, hk, rfl, hok, hM⟩ := hrel
    have HO : Hid _ := hok
    have HM : Hid _ := hM
    clear hok hM
    by_cases hlt : k < 32
    · have h1 : 2 * k < s.size := by omega
      have h2 : 2 * k + 1 < s.size := by omega
      have hi1 : Hid _ := hi_at s k h1
      have lo1 : Hid _ := lo_at s k h2
      have hc1 := s[2 * k].toNat_lt
      have hc2 := s[2 * k + 1].toNat_lt
      have hcell := HM.out.cell 1 rfl k (rdc_at _ k hlt)
      have hfz := HM.out.free 1 rfl k
      by_cases ha : Hex.sg s[2 * k] < 16
      · have HA : Hid _ := ha
        by_cases hb : Hex.sg s[2 * k + 1] < 16
        · have HB : Hid _ := hb
          go_wp2_with (first | ((go_at_call 56; with_reducible refine (sign_yes _ s[2 * k] HA.out).mono ?_); rintro e w' ⟨rfl, rfl⟩) | ((go_at_call 56; with_reducible refine (sign_yes _ s[2 * k + 1] HB.out).mono ?_); rintro e w' ⟨rfl, rfl⟩))
          go_roundw
          case rel =>
            refine ⟨k + 1, by omega, rfl, ?_, ?_⟩
            · rw [Hex.okB_succ, HO.out, hi1.out, lo1.out]; simp [HA.out, HB.out]
            · have := HM.out.setc 1 rfl k (.int .u8 (16 * Hex.sg s[2 * k] + Hex.sg s[2 * k + 1]))
              rw [← rdc_set_or _ k hlt _ _ hi1.out lo1.out HA.out HB.out]
              exact HM.out.setc 1 rfl k _
          case measure => simp [intOf]; omega
        · have HB : Hid _ := hb
          have HP : Hid _ := parse_bad hlt (fun e => hb (by rw [lo1.out] at e; exact e.2))
          go_wp2_with (first | ((go_at_call 56; with_reducible refine (sign_yes _ s[2 * k] HA.out).mono ?_); rintro e w' ⟨rfl, rfl⟩) | ((go_at_call 56; with_reducible refine (sign_no _ s[2 * k + 1] HB.out).mono ?_); rintro e w' ⟨rfl, rfl⟩) | (refine St.wl_buildV rfl rfl (cs := z32) (by kernel_rfl) ?_; simp only [Act.put, List.setIfInBounds_toArray, List.set_cons_zero, List.set_cons_succ]) | (refine St.wl_store tyIdP rfl rfl rfl rfl rfl (cs := z32) rfl (one_bv (List.replicate 32 0)) (HM.out.get 0 rfl) rfl ?_; have HM : Hid _ := HM.out.setr 0 rfl z32))
          refine bodyPost_ret (St.res2 tyIdP rfl _ _ _ z32 rfl rfl (HM.out.get 0 rfl) _ rfl) rfl ?_
          exact ⟨by rw [HP.out]; rfl, HM.out.keep⟩
      · have HA : Hid _ := ha
        have HP : Hid _ := parse_bad hlt (fun e => ha (by rw [hi1.out] at e; exact e.1))
        by_cases hb : Hex.sg s[2 * k + 1] < 16
        · have HB : Hid _ := hb
          go_wp2_with (first | ((go_at_call 56; with_reducible refine (sign_no _ s[2 * k] HA.out).mono ?_); rintro e w' ⟨rfl, rfl⟩) | ((go_at_call 56; with_reducible refine (sign_yes _ s[2 * k + 1] HB.out).mono ?_); rintro e w' ⟨rfl, rfl⟩) | (refine St.wl_buildV rfl rfl (cs := z32) (by kernel_rfl) ?_; simp only [Act.put, List.setIfInBounds_toArray, List.set_cons_zero, List.set_cons_succ]) | (refine St.wl_store tyIdP rfl rfl rfl rfl rfl (cs := z32) rfl (one_bv (List.replicate 32 0)) (HM.out.get 0 rfl) rfl ?_; have HM : Hid _ := HM.out.setr 0 rfl z32))
          refine bodyPost_ret (St.res2 tyIdP rfl _ _ _ z32 rfl rfl (HM.out.get 0 rfl) _ rfl) rfl ?_
          exact ⟨by rw [HP.out]; rfl, HM.out.keep⟩
        · have HB : Hid _ := hb
          go_wp2_with (first | ((go_at_call 56; with_reducible refine (sign_no _ s[2 * k] HA.out).mono ?_); rintro e w' ⟨rfl, rfl⟩) | ((go_at_call 56; with_reducible refine (sign_no _ s[2 * k + 1] HB.out).mono ?_); rintro e w' ⟨rfl, rfl⟩) | (refine St.wl_buildV rfl rfl (cs := z32) (by kernel_rfl) ?_; simp only [Act.put, List.setIfInBounds_toArray, List.set_cons_zero, List.set_cons_succ]) | (refine St.wl_store tyIdP rfl rfl rfl rfl rfl (cs := z32) rfl (one_bv (List.replicate 32 0)) (HM.out.get 0 rfl) rfl ?_; have HM : Hid _ := HM.out.setr 0 rfl z32))
          refine bodyPost_ret (St.res2 tyIdP rfl _ _ _ z32 rfl rfl (HM.out.get 0 rfl) _ rfl) rfl ?_
          exact ⟨by rw [HP.out]; rfl, HM.out.keep⟩
    · obtain rfl : k = 32 := by omega
      have HP : Hid _ := parse_ok HL.out HO.out
      have hr := rdc_full s.data.toList
      have HM2 := HM.out
      rw [hr] at HM2
      have HM : Hid _ := HM2
      clear HM2 hr
      have hvl := Hex.val_len s.data.toList 32
      have HV : Hid _ := hvl
      clear hvl
      go_wp2_with (first | (refine St.wl_load tyIdP (by rfl) rfl rfl (HM.out.range 1 rfl) (by rw [List.length_map]; exact HV.out) ?_; simp only [Act.put, List.setIfInBounds_toArray, List.set_cons_zero, List.set_cons_succ]) | (refine St.wl_store tyIdP rfl rfl rfl rfl rfl (cs := ((Hex.val s.data.toList 32).map bv).toArray) (by simp; exact HV.out) (one_bv _) (HM.out.get 0 rfl) rfl ?_; have HM : Hid _ := HM.out.setr 0 rfl ((Hex.val s.data.toList 32).map bv).toArray))
      refine bodyPost_ret (St.res2 tyIdP rfl _ _ _ ((Hex.val s.data.toList 32).map bv).toArray (by simp; exact HV.out) rfl (HM.out.get 0 rfl) _ rfl) rfl ?_
      exact ⟨by rw [HP.out]; rfl, HM.out.keep⟩
set_option maxRecDepth 100000 in
set_option maxHeartbeats 4000000 in
theorem xparse_64 (w : World) (s : ByteArray) (h : s.size = 64) : Calls Try.prog 18 #[.string s] w fun e w' => e = .returned (.tuple #[idv (Hex.parse s.data.toList).1, .int .i64 (Hex.parse s.data.toList).2]) ∧ Keep (fun _ => False) w w' := by
  have hd : ((s.size : Int) != 64) = false := by simp; omega
  have M0 : Hid (M (fun _ => False) w w []) := M.start _ w
  have HZ : Hid (s.size = 64) := h
  have HL : Hid (s.data.toList.length = 64) := by show _ = _; rw [Array.length_toList]; exact h
  have R0 : Hid (rdc s.data.toList 0 = z32) := rdc_zero _
  have hsz : s.size ≤ 64 := by omega
  have hsz2 : 64 ≤ s.size := by omega
  clear h
  go_enter Try.func18, Try.ntmps18
  go_wp2_with (first | (refine St.wl_alloc tyIdP rfl rfl (by (try simp only [World.size_alloc]); rfl) ?_; have M0 : Hid _ := M0.out.alloc (.cells z32 26) (by (try simp only [World.size_alloc]); rfl); simp only [Act.put, List.setIfInBounds_toArray, List.set_cons_zero, List.set_cons_succ]))
  go_loopw [5] (fun i wr => ∃ k : Nat, k ≤ 32 ∧ i = .int .i64 k ∧ Hex.okB s.data.toList k = true ∧ M (fun _ => False) w wr [blk w.heap.size (.cells z32 26), blk (w.heap.size + 1) (.cells (rdc s.data.toList k) 26)]) (fun i _ => 32 - (intOf i).toNat)
  case atStart => exact ⟨0, by omega, rfl, rfl, by rw [R0.out]; exact M0.out⟩
  case round =>
    obtain ⟨k, hk, rfl, hok, hM⟩ := hrel
    have HO : Hid _ := hok
    have HM : Hid _ := hM
    clear hok hM
    by_cases hlt : k < 32
    · have h1 : 2 * k < s.size := by omega
      have h2 : 2 * k + 1 < s.size := by omega
      have hi1 : Hid _ := hi_at s k h1
      have lo1 : Hid _ := lo_at s k h2
      have hc1 := s[2 * k].toNat_lt
      have hc2 := s[2 * k + 1].toNat_lt
      have hcell := HM.out.cell 1 rfl k (rdc_at _ k hlt)
      have hfz := HM.out.free 1 rfl k
      by_cases ha : Hex.sg s[2 * k] < 16
      · have HA : Hid _ := ha
        by_cases hb : Hex.sg s[2 * k + 1] < 16
        · have HB : Hid _ := hb
          go_wp2_with (first | ((go_at_call 57; with_reducible refine (half_yes _ s[2 * k] HA.out).mono ?_); rintro e w' ⟨rfl, rfl⟩) | ((go_at_call 57; with_reducible refine (half_yes _ s[2 * k + 1] HB.out).mono ?_); rintro e w' ⟨rfl, rfl⟩))
          go_roundw
          case rel =>
            refine ⟨k + 1, by omega, rfl, ?_, ?_⟩
            · rw [Hex.okB_succ, HO.out, hi1.out, lo1.out]; simp [HA.out, HB.out]
            · have := HM.out.setc 1 rfl k (.int .u8 (16 * Hex.sg s[2 * k] + Hex.sg s[2 * k + 1]))
              rw [← rdc_set_add _ k hlt _ _ hi1.out lo1.out HA.out HB.out]
              exact HM.out.setc 1 rfl k _
          case measure => simp [intOf]; omega
        · have HB : Hid _ := hb
          have HP : Hid _ := parse_bad hlt (fun e => hb (by rw [lo1.out] at e; exact e.2))
          go_wp2_with (first | ((go_at_call 57; with_reducible refine (half_yes _ s[2 * k] HA.out).mono ?_); rintro e w' ⟨rfl, rfl⟩) | ((go_at_call 57; with_reducible refine (half_no _ s[2 * k + 1] HB.out).mono ?_); rintro e w' ⟨rfl, rfl⟩) | (refine St.wl_buildV rfl rfl (cs := z32) (by kernel_rfl) ?_; simp only [Act.put, List.setIfInBounds_toArray, List.set_cons_zero, List.set_cons_succ]) | (refine St.wl_store tyIdP rfl rfl rfl rfl rfl (cs := z32) rfl (one_bv (List.replicate 32 0)) (HM.out.get 0 rfl) rfl ?_; have HM : Hid _ := HM.out.setr 0 rfl z32))
          refine bodyPost_ret (St.res2 tyIdP rfl _ _ _ z32 rfl rfl (HM.out.get 0 rfl) _ rfl) rfl ?_
          exact ⟨by rw [HP.out]; rfl, HM.out.keep⟩
      · have HA : Hid _ := ha
        have HP : Hid _ := parse_bad hlt (fun e => ha (by rw [hi1.out] at e; exact e.1))
        by_cases hb : Hex.sg s[2 * k + 1] < 16
        · have HB : Hid _ := hb
          go_wp2_with (first | ((go_at_call 57; with_reducible refine (half_no _ s[2 * k] HA.out).mono ?_); rintro e w' ⟨rfl, rfl⟩) | ((go_at_call 57; with_reducible refine (half_yes _ s[2 * k + 1] HB.out).mono ?_); rintro e w' ⟨rfl, rfl⟩) | (refine St.wl_buildV rfl rfl (cs := z32) (by kernel_rfl) ?_; simp only [Act.put, List.setIfInBounds_toArray, List.set_cons_zero, List.set_cons_succ]) | (refine St.wl_store tyIdP rfl rfl rfl rfl rfl (cs := z32) rfl (one_bv (List.replicate 32 0)) (HM.out.get 0 rfl) rfl ?_; have HM : Hid _ := HM.out.setr 0 rfl z32))
          refine bodyPost_ret (St.res2 tyIdP rfl _ _ _ z32 rfl rfl (HM.out.get 0 rfl) _ rfl) rfl ?_
          exact ⟨by rw [HP.out]; rfl, HM.out.keep⟩
        · have HB : Hid _ := hb
          go_wp2_with (first | ((go_at_call 57; with_reducible refine (half_no _ s[2 * k] HA.out).mono ?_); rintro e w' ⟨rfl, rfl⟩) | ((go_at_call 57; with_reducible refine (half_no _ s[2 * k + 1] HB.out).mono ?_); rintro e w' ⟨rfl, rfl⟩) | (refine St.wl_buildV rfl rfl (cs := z32) (by kernel_rfl) ?_; simp only [Act.put, List.setIfInBounds_toArray, List.set_cons_zero, List.set_cons_succ]) | (refine St.wl_store tyIdP rfl rfl rfl rfl rfl (cs := z32) rfl (one_bv (List.replicate 32 0)) (HM.out.get 0 rfl) rfl ?_; have HM : Hid _ := HM.out.setr 0 rfl z32))
          refine bodyPost_ret (St.res2 tyIdP rfl _ _ _ z32 rfl rfl (HM.out.get 0 rfl) _ rfl) rfl ?_
          exact ⟨by rw [HP.out]; rfl, HM.out.keep⟩
    · obtain rfl : k = 32 := by omega
      have HP : Hid _ := parse_ok HL.out HO.out
      have hr := rdc_full s.data.toList
      have HM2 := HM.out
      rw [hr] at HM2
      have HM : Hid _ := HM2
      clear HM2 hr
      have hvl := Hex.val_len s.data.toList 32
      have HV : Hid _ := hvl
      clear hvl
      go_wp2_with (first | (refine St.wl_load tyIdP (by rfl) rfl rfl (HM.out.range 1 rfl) (by rw [List.length_map]; exact HV.out) ?_; simp only [Act.put, List.setIfInBounds_toArray, List.set_cons_zero, List.set_cons_succ]) | (refine St.wl_store tyIdP rfl rfl rfl rfl rfl (cs := ((Hex.val s.data.toList 32).map bv).toArray) (by simp; exact HV.out) (one_bv _) (HM.out.get 0 rfl) rfl ?_; have HM : Hid _ := HM.out.setr 0 rfl ((Hex.val s.data.toList 32).map bv).toArray))
      refine bodyPost_ret (St.res2 tyIdP rfl _ _ _ ((Hex.val s.data.toList 32).map bv).toArray (by simp; exact HV.out) rfl (HM.out.get 0 rfl) _ rfl) rfl ?_
      exact ⟨by rw [HP.out]; rfl, HM.out.keep⟩
theorem parse_any (w : World) (s : ByteArray) (hs : s.size ≤ maxLen) : Calls Try.prog 17 #[.string s] w fun e w' => e = .returned (.tuple #[idv (Hex.parse s.data.toList).1, .int .i64 (Hex.parse s.data.toList).2]) ∧ Keep (fun _ => False) w w' := by
  by_cases h : s.size = 64
  · exact parse_64 w s h
  · have e : Hex.parse s.data.toList = (List.replicate 32 0, 4) := by
      unfold Hex.parse
      rw [if_neg (fun e => h (by have := e.1; rwa [Array.length_toList] at this))]
    rw [e]
    exact parse_long w s hs h
set_option maxRecDepth 100000 in
set_option maxHeartbeats 2000000 in
theorem xparse_long (w : World) (s : ByteArray) (hs : s.size ≤ maxLen) (h : s.size ≠ 64) : Calls Try.prog 18 #[.string s] w fun e w' => e = .returned (.tuple #[idv (List.replicate 32 0), .int .i64 4]) ∧ Keep (fun _ => False) w w' := by
  have hd : ((s.size : Int) != 64) = true := by simp; omega
  have M0 : Hid (M (fun _ => False) w w []) := M.start _ w
  unfold maxLen at hs
  go_enter Try.func18, Try.ntmps18
  go_wp2_with (first | (refine St.wl_alloc tyIdP rfl rfl (by (try simp only [World.size_alloc]); rfl) ?_; have M0 : Hid _ := M0.out.alloc (.cells z32 26) (by (try simp only [World.size_alloc]); rfl); simp only [Act.put, List.setIfInBounds_toArray, List.set_cons_zero, List.set_cons_succ]) | (refine St.wl_load tyIdP (by rfl) rfl rfl (M0.out.range 1 rfl) (cs := (List.replicate 32 (0 : UInt8)).map bv) (by simp) ?_; simp only [Act.put, List.setIfInBounds_toArray, List.set_cons_zero, List.set_cons_succ]) | (refine St.wl_store tyIdP rfl rfl rfl rfl rfl (cs := z32) rfl (one_bv (List.replicate 32 0)) (M0.out.get 0 rfl) rfl ?_; have M0 : Hid _ := M0.out.setr 0 rfl z32))
  refine bodyPost_ret (St.res2 tyIdP rfl _ _ _ z32 rfl rfl (M0.out.get 0 rfl) _ rfl) rfl ?_
  exact ⟨rfl, M0.out.keep⟩
theorem xparse_any (w : World) (s : ByteArray) (hs : s.size ≤ maxLen) : Calls Try.prog 18 #[.string s] w fun e w' => e = .returned (.tuple #[idv (Hex.parse s.data.toList).1, .int .i64 (Hex.parse s.data.toList).2]) ∧ Keep (fun _ => False) w w' := by
  by_cases h : s.size = 64
  · exact xparse_64 w s h
  · have e : Hex.parse s.data.toList = (List.replicate 32 0, 4) := by
      unfold Hex.parse
      rw [if_neg (fun e => h (by have := e.1; rwa [Array.length_toList] at this))]
    rw [e]
    exact xparse_long w s hs h
end Ids
end Go.Proofs.Ytkoolpalhahigaa
