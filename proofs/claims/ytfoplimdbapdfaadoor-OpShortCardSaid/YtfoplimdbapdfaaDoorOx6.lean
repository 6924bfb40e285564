/-
  op.shift, op.lay.
-/
import Derived.Test.YtfoplimdbapdfaaDoorOx5
import Derived.Test.YtfoplimdbapdfaaDoorGTx
import Derived.Deep.Cut
import Derived.Sort.AtCall
set_option linter.unusedVariables false
set_option linter.unusedSimpArgs false
namespace Go.Proofs.YtfoplimdbapdfaaDoor
open Go.RowKit
namespace Mem
open Oct
section
variable {F : Nat → Prop} {w0 w : World} {l : List It}
theorem M_wr {w : World} {b : Nat} {bs : List UInt8} {sv : Value} (h : IsW w b bs 0 sv) : M (wr b bs sv).foot w w [wr b bs sv] :=
  M.start1 (x := wr b bs sv) h (fun k hk => by
    rcases hk with e | e
    · rw [e]; exact lt_of_block h.blk
    · exact (h.own.lt _ e).2)
theorem M_out {w w' : World} {b : Nat} {bs bs' : List UInt8} {sv sv' : Value} {l : List It} (h : M (wr b bs sv).foot w w' (wr b bs' sv' :: l)) : IsW w' b bs' 0 sv' ∧ After w w' b sv sv' := by
  have h0 : IsW w' b bs' 0 sv' := h.get 0 rfl
  refine ⟨h0, h.keep, fun k hk => ?_⟩
  rcases (h.rng 0 _ rfl k (.inr hk)).1 with e | e | e
  · exact .inr e
  · exact absurd (e ▸ hk) h0.ne
  · exact .inl e
theorem M.wshort (h : M F w0 w l) (i : Nat) {b : Nat} {bs : List UInt8} {sv : Value} (hi : l[i]? = some (wr b bs sv)) (s : ByteArray) (hs : s.size ≤ 255) (hl : bs.length ≤ 1000000) :
    Calls Tryd.prog 81 #[.pointer (some ⟨b, 0, none⟩), .string s] w fun e w' => e = .returned (.tuple #[]) ∧ ∃ sv', M F w0 w' (l.set i (wr b (bs ++ Ox.sh s) sv')) := by
  refine (Ox.short_ok w b bs s sv (h.get i hi) hs hl).mono ?_
  rintro e w' ⟨rfl, sv', h1, k1⟩
  exact ⟨rfl, sv', h.wrote i hi h1 k1⟩
theorem M.wrefs (h : M F w0 w l) (i : Nat) {b : Nat} {bs : List UInt8} {sv : Value} (hi : l[i]? = some (wr b bs sv)) {a : Option Addr} {n : Nat} (c : Nat) {els : List (List UInt8)} (hA : Ids.At w0 a n els) (hn : n ≤ 255) (hl : bs.length ≤ 1000000) (hna : n = 0 ∨ ∀ g o, a = some ⟨g, o, none⟩ → ¬ F g) :
    Calls Tryd.prog 82 #[.pointer (some ⟨b, 0, none⟩), .slice a n c] w fun e w' => e = .returned (.tuple #[]) ∧ ∃ sv', M F w0 w' (l.set i (wr b (bs ++ Ox.rf els) sv')) := by
  have h0 : IsW w b bs 0 sv := h.get i hi
  by_cases hz : n = 0
  · subst hz
    obtain rfl : els = [] := List.eq_nil_of_length_eq_zero hA.len
    refine (Ox.refs_ok w b bs a 0 c [] sv h0 ⟨rfl, by simp, Nat.zero_le _, .inl rfl⟩ hn hl (.inl rfl)).mono ?_
    rintro e w' ⟨rfl, sv', h1, k1⟩
    exact ⟨rfl, sv', h.wrote i hi h1 k1⟩
  · obtain ⟨g, off, ha, hg, hr⟩ := hA.lay.resolve_left hz
    have hF := (hna.resolve_left hz) g off ha
    have ne : ∀ k, (wr b bs sv).foot k → k ≠ g := fun k hk e => by
      subst e
      rcases (h.rng i _ hi k hk).1 with e | e
      · omega
      · exact hF e
    refine (Ox.refs_ok w b bs a n c els sv h0 (hA.keep h.keep (fun b2 o2 e => by rw [ha] at e; cases e; exact hF)) hn hl (.inr fun g2 o2 e => ?_)).mono ?_
    · rw [ha] at e
      cases e
      exact ⟨fun e => ne b (.inl rfl) e.symm, fun e => ne g (.inr e) rfl⟩
    · rintro e w' ⟨rfl, sv', h1, k1⟩
      exact ⟨rfl, sv', h.wrote i hi h1 k1⟩
end
end Mem
namespace Ox
open Oct Ids
open OctRd (be_len)
open Mem

def shf (K : Int) : Int := if K = 1 then 2147483648 else 0
set_option maxRecDepth 100000 in
theorem shift_1 (w : World) : Calls Tryd.prog 78 #[.int .i64 1] w fun e w' => e = .returned (.int .i64 2147483648) ∧ w' = w := by
  go_enter Tryd.func78, Tryd.ntmps78
  go_wp2
  go_ret
  exact ⟨rfl, rfl⟩
set_option maxRecDepth 100000 in
theorem shift_n (w : World) (K : Int) (hK : (K == 1) = false) : Calls Tryd.prog 78 #[.int .i64 K] w fun e w' => e = .returned (.int .i64 0) ∧ w' = w := by
  go_enter Tryd.func78, Tryd.ntmps78
  go_wp2
  go_ret
  exact ⟨rfl, rfl⟩
/-- What an operation's bytes have behind its kind. -/
def body (K N : Int) (Y V : ByteArray) (r : List UInt8) (l : List (List UInt8)) : List UInt8 :=
  (if iR K = true then r else []) ++ ((if iK K = true then sh Y else []) ++ ((if iV K = true then sh V else []) ++ ((if iN K = true then be 4 (N + shf K) else []) ++ (if iS K = true then rf l else []))))
set_option maxRecDepth 100000 in
set_option maxHeartbeats 1000000 in
theorem lay_1 (w : World) (b : Nat) (bs : List UInt8) (N : Int) (Y V : ByteArray) (r : List UInt8) (a : Option Addr) (n c : Nat) (l : List (List UInt8)) (sv : Value) (h : IsW w b bs 0 sv) (hA : At w a n l) (hr : r.length = 32) (hn : n ≤ 8) (hY : Y.size ≤ 16) (hV : V.size ≤ 16) (hN0 : -2147483648 ≤ N + shf 1) (hN1 : N + shf 1 < 4294967296) (hN2 : iN 1 = true → 0 ≤ N + shf 1) (hl : bs.length ≤ 100000) (hna : n = 0 ∨ ∀ g o, a = some ⟨g, o, none⟩ → g ≠ b ∧ sv.ownBlock ≠ some g) :
    Calls Tryd.prog 50 #[.pointer (some ⟨b, 0, none⟩), .agg (oc 1 N Y V r (.slice a n c)).toArray] w fun e w' => e = .returned (.tuple #[]) ∧ ∃ sv', IsW w' b (bs ++ body 1 N Y V r l) 0 sv' ∧ After w w' b sv sv' := by
  have A0 : Hid (At w a n l) := hA
  have Hr : Hid (r.length = 32) := hr
  have HNa : Hid (n = 0 ∨ ∀ g o, a = some ⟨g, o, none⟩ → ¬ (wr b bs sv).foot g) := hna.imp id (fun q g o e f => by rcases f with f | f; exact (q g o e).1 f; exact (q g o e).2 f)
  have HM : Hid (M _ w _ [wr b bs sv, blk w.heap.size (.cells (oc 1 N Y V r (.slice a n c)).toArray 27)]) := (M_wr h).alloc _ rfl
  have E0 : Hid _ := OAt.new (K := 1) (N := N) (Y := Y) (V := V) (rv := .slice a n c) w hr
  generalize hX : (oc 1 N Y V r (.slice a n c)).toArray = X at E0 HM ⊢
  have HX : Hid ((oc 1 N Y V r (.slice a n c)).toArray = X) := hX
  obtain ⟨g0, g1, g2, g3, g36⟩ := E0.out.cells
  have hcr := conv_id _ w.heap.size 4 r hr 32 E0.out.ref
  have e : body 1 N Y V r l = be 4 (N + shf 1) := by simp [body, show iR 1 = false from rfl, show iK 1 = false from rfl, show iV 1 = false from rfl, show iN 1 = true from rfl, show iS 1 = false from rfl]
  rw [e]
  clear e hX hA h hna hr
  obtain ⟨m, hm⟩ : ∃ m, N + 2147483648 = m := ⟨_, rfl⟩
  have hm2 : N + shf 1 = m := by rw [← hm]; rfl
  rw [hm2] at hN0 hN1 hN2
  (try rw [hm2])
  have hw : IntKind.i64.wrap (N + 2147483648) = m := by rw [hm]; exact IntWalk.i64_in _ (by omega)
  (try have hw2 : IntKind.i64.wrap N = m := by rw [← hm, Int.add_zero]; exact IntWalk.i64_in _ (by omega))
  have hm0 : iN 1 = true → 0 ≤ m := hN2
  have Hm : Hid (N + 2147483648 = m) := hm
  clear hm hm2 hN2
  go_enter Tryd.func50, Tryd.ntmps50
  go_wp2_with (first | ((fail_if_success go_not_at_region 13); refine Txt.wp_region_text (id := 13) (fun w' => w'.cell? ⟨w.heap.size, 1, none⟩ = some (.int .i64 N)) [0, 0, 2, 0, 1, 4, 0, 4] (by kernel_rfl) (by kernel_rfl) g1 ?_; (repeat (first | (refine Txt.tl_pure (v := ?_) (by rfl) ?_ ?_; rotate_left; (focus (intro _; go_simp; try with_reducible rfl)); simp only [Act.put, List.setIfInBounds_toArray, List.set_cons_zero, List.set_cons_succ]) | (refine Txt.tl_skip (by rfl) (by first | trivial | exact HS.out) ?_; simp only [Act.put, List.setIfInBounds_toArray, List.set_cons_zero, List.set_cons_succ]) | (refine Txt.tl_load (v := ?_) (by rfl) (by rfl) (by rfl) (by kernel_rfl) ?_ ?_; rotate_left; (focus (first | assumption | (go_simp; done) | (go_simp; with_reducible rfl))); simp only [Act.put, List.setIfInBounds_toArray, List.set_cons_zero, List.set_cons_succ]) | (refine Txt.tl_loadB (v := ?_) (by rfl) (by rfl) (by rfl) (by kernel_rfl) ?_ ?_; rotate_left; (focus assumption); simp only [Act.put, List.setIfInBounds_toArray, List.set_cons_zero, List.set_cons_succ]))); refine Txt.tl_loadS (v := .int .i64 N) (by rfl) (by rfl) (by rfl) (by kernel_rfl) (fun _ h => h) ?_; simp only [Act.put, List.setIfInBounds_toArray, List.set_cons_zero, List.set_cons_succ]; (repeat (first | (refine Txt.tl_pure (v := ?_) (by rfl) ?_ ?_; rotate_left; (focus (intro _; go_simp; try with_reducible rfl)); simp only [Act.put, List.setIfInBounds_toArray, List.set_cons_zero, List.set_cons_succ]) | (refine Txt.tl_skip (by rfl) (by first | trivial | exact HS.out) ?_; simp only [Act.put, List.setIfInBounds_toArray, List.set_cons_zero, List.set_cons_succ]) | (refine Txt.tl_load (v := ?_) (by rfl) (by rfl) (by rfl) (by kernel_rfl) ?_ ?_; rotate_left; (focus (first | assumption | (go_simp; done) | (go_simp; with_reducible rfl))); simp only [Act.put, List.setIfInBounds_toArray, List.set_cons_zero, List.set_cons_succ]) | (refine Txt.tl_loadB (v := ?_) (by rfl) (by rfl) (by rfl) (by kernel_rfl) ?_ ?_; rotate_left; (focus assumption); simp only [Act.put, List.setIfInBounds_toArray, List.set_cons_zero, List.set_cons_succ]))); refine Txt.tl_call Tryd.func78 (by kernel_rfl) (by kernel_rfl) (by rfl) (by rfl) (by rfl) (shift_1 _) ?_; rintro e w9 ⟨rfl, rfl⟩; refine ⟨_, rfl, g1, ?_⟩; simp only [Act.put, List.setIfInBounds_toArray, List.set_cons_zero, List.set_cons_succ]; (repeat (first | (refine Txt.tl_pure (v := ?_) (by rfl) ?_ ?_; rotate_left; (focus (intro _; go_simp; try with_reducible rfl)); simp only [Act.put, List.setIfInBounds_toArray, List.set_cons_zero, List.set_cons_succ]) | (refine Txt.tl_skip (by rfl) (by first | trivial | exact HS.out) ?_; simp only [Act.put, List.setIfInBounds_toArray, List.set_cons_zero, List.set_cons_succ]) | (refine Txt.tl_load (v := ?_) (by rfl) (by rfl) (by rfl) (by kernel_rfl) ?_ ?_; rotate_left; (focus (first | assumption | (go_simp; done) | (go_simp; with_reducible rfl))); simp only [Act.put, List.setIfInBounds_toArray, List.set_cons_zero, List.set_cons_succ]) | (refine Txt.tl_loadB (v := ?_) (by rfl) (by rfl) (by rfl) (by kernel_rfl) ?_ ?_; rotate_left; (focus assumption); simp only [Act.put, List.setIfInBounds_toArray, List.set_cons_zero, List.set_cons_succ]))); refine Txt.tl_call Tryd.func49 (by kernel_rfl) (by kernel_rfl) (by rfl) (by rfl) (by rfl) (M.wnum HM.out.drew 0 rfl m 4 (by omega) (hm0 rfl) (by omega) (by (try simp only [List.length_append, be_len, sh_len]); omega)) ?_; rintro e w5 ⟨rfl, sv5, h1⟩; have HM : Hid _ := h1; clear h1; have E0 : Hid (OAt _ w.heap.size _ N Y V r (.slice a n c)) := ⟨by rw [HX.out]; exact HM.out.get 1 rfl, Hr.out⟩; obtain ⟨g0, g1, g2, g3, g36⟩ := E0.out.cells; refine ⟨_, rfl, g1, ?_⟩; simp only [Act.put, List.setIfInBounds_toArray, List.set_cons_zero, List.set_cons_succ]; (repeat (first | (refine Txt.tl_pure (v := ?_) (by rfl) ?_ ?_; rotate_left; (focus (intro _; go_simp; try with_reducible rfl)); simp only [Act.put, List.setIfInBounds_toArray, List.set_cons_zero, List.set_cons_succ]) | (refine Txt.tl_skip (by rfl) (by first | trivial | exact HS.out) ?_; simp only [Act.put, List.setIfInBounds_toArray, List.set_cons_zero, List.set_cons_succ]) | (refine Txt.tl_load (v := ?_) (by rfl) (by rfl) (by rfl) (by kernel_rfl) ?_ ?_; rotate_left; (focus (first | assumption | (go_simp; done) | (go_simp; with_reducible rfl))); simp only [Act.put, List.setIfInBounds_toArray, List.set_cons_zero, List.set_cons_succ]) | (refine Txt.tl_loadB (v := ?_) (by rfl) (by rfl) (by rfl) (by kernel_rfl) ?_ ?_; rotate_left; (focus assumption); simp only [Act.put, List.setIfInBounds_toArray, List.set_cons_zero, List.set_cons_succ]))); refine Txt.tl_nil ?_))
  (try simp only [Exit.inBlock, Exit.then])
  first | (refine bodyPost_end (results_none rfl _ _ _) rfl ?_) | (refine bodyPost_ret (results_none rfl _ _ _) rfl ?_)
  have q := M_out HM.out
  refine ⟨rfl, _, ?_, q.2⟩
  have q1 := q.1
  (try simp only [List.append_assoc] at q1 ⊢)
  exact q1
set_option maxRecDepth 100000 in
set_option maxHeartbeats 1000000 in
theorem lay_2 (w : World) (b : Nat) (bs : List UInt8) (N : Int) (Y V : ByteArray) (r : List UInt8) (a : Option Addr) (n c : Nat) (l : List (List UInt8)) (sv : Value) (h : IsW w b bs 0 sv) (hA : At w a n l) (hr : r.length = 32) (hn : n ≤ 8) (hY : Y.size ≤ 16) (hV : V.size ≤ 16) (hN0 : -2147483648 ≤ N + shf 2) (hN1 : N + shf 2 < 4294967296) (hN2 : iN 2 = true → 0 ≤ N + shf 2) (hl : bs.length ≤ 100000) (hna : n = 0 ∨ ∀ g o, a = some ⟨g, o, none⟩ → g ≠ b ∧ sv.ownBlock ≠ some g) :
    Calls Tryd.prog 50 #[.pointer (some ⟨b, 0, none⟩), .agg (oc 2 N Y V r (.slice a n c)).toArray] w fun e w' => e = .returned (.tuple #[]) ∧ ∃ sv', IsW w' b (bs ++ body 2 N Y V r l) 0 sv' ∧ After w w' b sv sv' := by
  have A0 : Hid (At w a n l) := hA
  have Hr : Hid (r.length = 32) := hr
  have HNa : Hid (n = 0 ∨ ∀ g o, a = some ⟨g, o, none⟩ → ¬ (wr b bs sv).foot g) := hna.imp id (fun q g o e f => by rcases f with f | f; exact (q g o e).1 f; exact (q g o e).2 f)
  have HM : Hid (M _ w _ [wr b bs sv, blk w.heap.size (.cells (oc 2 N Y V r (.slice a n c)).toArray 27)]) := (M_wr h).alloc _ rfl
  have E0 : Hid _ := OAt.new (K := 2) (N := N) (Y := Y) (V := V) (rv := .slice a n c) w hr
  generalize hX : (oc 2 N Y V r (.slice a n c)).toArray = X at E0 HM ⊢
  have HX : Hid ((oc 2 N Y V r (.slice a n c)).toArray = X) := hX
  obtain ⟨g0, g1, g2, g3, g36⟩ := E0.out.cells
  have hcr := conv_id _ w.heap.size 4 r hr 32 E0.out.ref
  have e : body 2 N Y V r l = sh V := by simp [body, show iR 2 = false from rfl, show iK 2 = false from rfl, show iV 2 = true from rfl, show iN 2 = false from rfl, show iS 2 = false from rfl]
  rw [e]
  clear e hX hA h hna hr
  obtain ⟨m, hm⟩ : ∃ m, N + 0 = m := ⟨_, rfl⟩
  have hm2 : N + shf 2 = m := by rw [← hm]; rfl
  rw [hm2] at hN0 hN1 hN2
  (try rw [hm2])
  have hw : IntKind.i64.wrap (N + 0) = m := by rw [hm]; exact IntWalk.i64_in _ (by omega)
  (try have hw2 : IntKind.i64.wrap N = m := by rw [← hm, Int.add_zero]; exact IntWalk.i64_in _ (by omega))
  have hm0 : iN 2 = true → 0 ≤ m := hN2
  have Hm : Hid (N + 0 = m) := hm
  clear hm hm2 hN2
  go_enter Tryd.func50, Tryd.ntmps50
  go_wp2_with (first | (go_at_call_has 81 (Value.string V); refine (M.wshort HM.out 0 rfl V (by omega) (by have q := Hr.out; (try simp only [List.length_append, be_len, sh_len, List.toList_toArray]); omega)).mono ?_; rintro e w2 ⟨rfl, sv2, h1⟩; have HM : Hid _ := h1; clear h1; have E0 : Hid (OAt _ w.heap.size _ N Y V r (.slice a n c)) := ⟨by rw [HX.out]; exact HM.out.get 1 rfl, Hr.out⟩; obtain ⟨g0, g1, g2, g3, g36⟩ := E0.out.cells))
  (try simp only [Exit.inBlock, Exit.then])
  first | (refine bodyPost_end (results_none rfl _ _ _) rfl ?_) | (refine bodyPost_ret (results_none rfl _ _ _) rfl ?_)
  have q := M_out HM.out
  refine ⟨rfl, _, ?_, q.2⟩
  have q1 := q.1
  (try simp only [List.append_assoc] at q1 ⊢)
  exact q1
set_option maxRecDepth 100000 in
set_option maxHeartbeats 1000000 in
theorem lay_3 (w : World) (b : Nat) (bs : List UInt8) (N : Int) (Y V : ByteArray) (r : List UInt8) (a : Option Addr) (n c : Nat) (l : List (List UInt8)) (sv : Value) (h : IsW w b bs 0 sv) (hA : At w a n l) (hr : r.length = 32) (hn : n ≤ 8) (hY : Y.size ≤ 16) (hV : V.size ≤ 16) (hN0 : -2147483648 ≤ N + shf 3) (hN1 : N + shf 3 < 4294967296) (hN2 : iN 3 = true → 0 ≤ N + shf 3) (hl : bs.length ≤ 100000) (hna : n = 0 ∨ ∀ g o, a = some ⟨g, o, none⟩ → g ≠ b ∧ sv.ownBlock ≠ some g) :
    Calls Tryd.prog 50 #[.pointer (some ⟨b, 0, none⟩), .agg (oc 3 N Y V r (.slice a n c)).toArray] w fun e w' => e = .returned (.tuple #[]) ∧ ∃ sv', IsW w' b (bs ++ body 3 N Y V r l) 0 sv' ∧ After w w' b sv sv' := by
  have A0 : Hid (At w a n l) := hA
  have Hr : Hid (r.length = 32) := hr
  have HNa : Hid (n = 0 ∨ ∀ g o, a = some ⟨g, o, none⟩ → ¬ (wr b bs sv).foot g) := hna.imp id (fun q g o e f => by rcases f with f | f; exact (q g o e).1 f; exact (q g o e).2 f)
  have HM : Hid (M _ w _ [wr b bs sv, blk w.heap.size (.cells (oc 3 N Y V r (.slice a n c)).toArray 27)]) := (M_wr h).alloc _ rfl
  have E0 : Hid _ := OAt.new (K := 3) (N := N) (Y := Y) (V := V) (rv := .slice a n c) w hr
  generalize hX : (oc 3 N Y V r (.slice a n c)).toArray = X at E0 HM ⊢
  have HX : Hid ((oc 3 N Y V r (.slice a n c)).toArray = X) := hX
  obtain ⟨g0, g1, g2, g3, g36⟩ := E0.out.cells
  have hcr := conv_id _ w.heap.size 4 r hr 32 E0.out.ref
  have e : body 3 N Y V r l = sh V ++ rf l := by simp [body, show iR 3 = false from rfl, show iK 3 = false from rfl, show iV 3 = true from rfl, show iN 3 = false from rfl, show iS 3 = true from rfl]
  rw [e]
  clear e hX hA h hna hr
  obtain ⟨m, hm⟩ : ∃ m, N + 0 = m := ⟨_, rfl⟩
  have hm2 : N + shf 3 = m := by rw [← hm]; rfl
  rw [hm2] at hN0 hN1 hN2
  (try rw [hm2])
  have hw : IntKind.i64.wrap (N + 0) = m := by rw [hm]; exact IntWalk.i64_in _ (by omega)
  (try have hw2 : IntKind.i64.wrap N = m := by rw [← hm, Int.add_zero]; exact IntWalk.i64_in _ (by omega))
  have hm0 : iN 3 = true → 0 ≤ m := hN2
  have Hm : Hid (N + 0 = m) := hm
  clear hm hm2 hN2
  go_enter Tryd.func50, Tryd.ntmps50
  go_wp2_with (first | (go_at_call_has 81 (Value.string V); refine (M.wshort HM.out 0 rfl V (by omega) (by have q := Hr.out; (try simp only [List.length_append, be_len, sh_len, List.toList_toArray]); omega)).mono ?_; rintro e w2 ⟨rfl, sv2, h1⟩; have HM : Hid _ := h1; clear h1; have E0 : Hid (OAt _ w.heap.size _ N Y V r (.slice a n c)) := ⟨by rw [HX.out]; exact HM.out.get 1 rfl, Hr.out⟩; obtain ⟨g0, g1, g2, g3, g36⟩ := E0.out.cells) | (go_at_call 82; refine (M.wrefs HM.out 0 rfl c A0.out (by omega) (by (try simp only [List.length_append, be_len, sh_len]); omega) HNa.out).mono ?_; rintro e w3 ⟨rfl, sv3, h1⟩; have HM : Hid _ := h1; clear h1; have E0 : Hid (OAt _ w.heap.size _ N Y V r (.slice a n c)) := ⟨by rw [HX.out]; exact HM.out.get 1 rfl, Hr.out⟩; obtain ⟨g0, g1, g2, g3, g36⟩ := E0.out.cells))
  (try simp only [Exit.inBlock, Exit.then])
  first | (refine bodyPost_end (results_none rfl _ _ _) rfl ?_) | (refine bodyPost_ret (results_none rfl _ _ _) rfl ?_)
  have q := M_out HM.out
  refine ⟨rfl, _, ?_, q.2⟩
  have q1 := q.1
  (try simp only [List.append_assoc] at q1 ⊢)
  exact q1
set_option maxRecDepth 100000 in
set_option maxHeartbeats 1000000 in
theorem lay_4 (w : World) (b : Nat) (bs : List UInt8) (N : Int) (Y V : ByteArray) (r : List UInt8) (a : Option Addr) (n c : Nat) (l : List (List UInt8)) (sv : Value) (h : IsW w b bs 0 sv) (hA : At w a n l) (hr : r.length = 32) (hn : n ≤ 8) (hY : Y.size ≤ 16) (hV : V.size ≤ 16) (hN0 : -2147483648 ≤ N + shf 4) (hN1 : N + shf 4 < 4294967296) (hN2 : iN 4 = true → 0 ≤ N + shf 4) (hl : bs.length ≤ 100000) (hna : n = 0 ∨ ∀ g o, a = some ⟨g, o, none⟩ → g ≠ b ∧ sv.ownBlock ≠ some g) :
    Calls Tryd.prog 50 #[.pointer (some ⟨b, 0, none⟩), .agg (oc 4 N Y V r (.slice a n c)).toArray] w fun e w' => e = .returned (.tuple #[]) ∧ ∃ sv', IsW w' b (bs ++ body 4 N Y V r l) 0 sv' ∧ After w w' b sv sv' := by
  have A0 : Hid (At w a n l) := hA
  have Hr : Hid (r.length = 32) := hr
  have HNa : Hid (n = 0 ∨ ∀ g o, a = some ⟨g, o, none⟩ → ¬ (wr b bs sv).foot g) := hna.imp id (fun q g o e f => by rcases f with f | f; exact (q g o e).1 f; exact (q g o e).2 f)
  have HM : Hid (M _ w _ [wr b bs sv, blk w.heap.size (.cells (oc 4 N Y V r (.slice a n c)).toArray 27)]) := (M_wr h).alloc _ rfl
  have E0 : Hid _ := OAt.new (K := 4) (N := N) (Y := Y) (V := V) (rv := .slice a n c) w hr
  generalize hX : (oc 4 N Y V r (.slice a n c)).toArray = X at E0 HM ⊢
  have HX : Hid ((oc 4 N Y V r (.slice a n c)).toArray = X) := hX
  obtain ⟨g0, g1, g2, g3, g36⟩ := E0.out.cells
  have hcr := conv_id _ w.heap.size 4 r hr 32 E0.out.ref
  have e : body 4 N Y V r l = sh Y ++ (sh V ++ be 4 (N + shf 4)) := by simp [body, show iR 4 = false from rfl, show iK 4 = true from rfl, show iV 4 = true from rfl, show iN 4 = true from rfl, show iS 4 = false from rfl]
  rw [e]
  clear e hX hA h hna hr
  obtain ⟨m, hm⟩ : ∃ m, N + 0 = m := ⟨_, rfl⟩
  have hm2 : N + shf 4 = m := by rw [← hm]; rfl
  rw [hm2] at hN0 hN1 hN2
  (try rw [hm2])
  have hw : IntKind.i64.wrap (N + 0) = m := by rw [hm]; exact IntWalk.i64_in _ (by omega)
  (try have hw2 : IntKind.i64.wrap N = m := by rw [← hm, Int.add_zero]; exact IntWalk.i64_in _ (by omega))
  have hm0 : iN 4 = true → 0 ≤ m := hN2
  have Hm : Hid (N + 0 = m) := hm
  clear hm hm2 hN2
  go_enter Tryd.func50, Tryd.ntmps50
  go_wp2_with (first | (go_at_call_has 81 (Value.string Y); refine (M.wshort HM.out 0 rfl Y (by omega) (by (try simp only [List.length_append, be_len, sh_len]); omega)).mono ?_; rintro e w1 ⟨rfl, sv1, h1⟩; have HM : Hid _ := h1; clear h1; have E0 : Hid (OAt _ w.heap.size _ N Y V r (.slice a n c)) := ⟨by rw [HX.out]; exact HM.out.get 1 rfl, Hr.out⟩; obtain ⟨g0, g1, g2, g3, g36⟩ := E0.out.cells) | (go_at_call_has 81 (Value.string V); refine (M.wshort HM.out 0 rfl V (by omega) (by have q := Hr.out; (try simp only [List.length_append, be_len, sh_len, List.toList_toArray]); omega)).mono ?_; rintro e w2 ⟨rfl, sv2, h1⟩; have HM : Hid _ := h1; clear h1; have E0 : Hid (OAt _ w.heap.size _ N Y V r (.slice a n c)) := ⟨by rw [HX.out]; exact HM.out.get 1 rfl, Hr.out⟩; obtain ⟨g0, g1, g2, g3, g36⟩ := E0.out.cells) | ((fail_if_success go_not_at_region 13); refine Txt.wp_region_text (id := 13) (fun w' => w'.cell? ⟨w.heap.size, 1, none⟩ = some (.int .i64 N)) [0, 0, 2, 0, 1, 4, 0, 4] (by kernel_rfl) (by kernel_rfl) g1 ?_; (repeat (first | (refine Txt.tl_pure (v := ?_) (by rfl) ?_ ?_; rotate_left; (focus (intro _; go_simp; try with_reducible rfl)); simp only [Act.put, List.setIfInBounds_toArray, List.set_cons_zero, List.set_cons_succ]) | (refine Txt.tl_skip (by rfl) (by first | trivial | exact HS.out) ?_; simp only [Act.put, List.setIfInBounds_toArray, List.set_cons_zero, List.set_cons_succ]) | (refine Txt.tl_load (v := ?_) (by rfl) (by rfl) (by rfl) (by kernel_rfl) ?_ ?_; rotate_left; (focus (first | assumption | (go_simp; done) | (go_simp; with_reducible rfl))); simp only [Act.put, List.setIfInBounds_toArray, List.set_cons_zero, List.set_cons_succ]) | (refine Txt.tl_loadB (v := ?_) (by rfl) (by rfl) (by rfl) (by kernel_rfl) ?_ ?_; rotate_left; (focus assumption); simp only [Act.put, List.setIfInBounds_toArray, List.set_cons_zero, List.set_cons_succ]))); refine Txt.tl_loadS (v := .int .i64 N) (by rfl) (by rfl) (by rfl) (by kernel_rfl) (fun _ h => h) ?_; simp only [Act.put, List.setIfInBounds_toArray, List.set_cons_zero, List.set_cons_succ]; (repeat (first | (refine Txt.tl_pure (v := ?_) (by rfl) ?_ ?_; rotate_left; (focus (intro _; go_simp; try with_reducible rfl)); simp only [Act.put, List.setIfInBounds_toArray, List.set_cons_zero, List.set_cons_succ]) | (refine Txt.tl_skip (by rfl) (by first | trivial | exact HS.out) ?_; simp only [Act.put, List.setIfInBounds_toArray, List.set_cons_zero, List.set_cons_succ]) | (refine Txt.tl_load (v := ?_) (by rfl) (by rfl) (by rfl) (by kernel_rfl) ?_ ?_; rotate_left; (focus (first | assumption | (go_simp; done) | (go_simp; with_reducible rfl))); simp only [Act.put, List.setIfInBounds_toArray, List.set_cons_zero, List.set_cons_succ]) | (refine Txt.tl_loadB (v := ?_) (by rfl) (by rfl) (by rfl) (by kernel_rfl) ?_ ?_; rotate_left; (focus assumption); simp only [Act.put, List.setIfInBounds_toArray, List.set_cons_zero, List.set_cons_succ]))); refine Txt.tl_call Tryd.func78 (by kernel_rfl) (by kernel_rfl) (by rfl) (by rfl) (by rfl) (shift_n _ 4 rfl) ?_; rintro e w9 ⟨rfl, rfl⟩; refine ⟨_, rfl, g1, ?_⟩; simp only [Act.put, List.setIfInBounds_toArray, List.set_cons_zero, List.set_cons_succ]; (repeat (first | (refine Txt.tl_pure (v := ?_) (by rfl) ?_ ?_; rotate_left; (focus (intro _; go_simp; try with_reducible rfl)); simp only [Act.put, List.setIfInBounds_toArray, List.set_cons_zero, List.set_cons_succ]) | (refine Txt.tl_skip (by rfl) (by first | trivial | exact HS.out) ?_; simp only [Act.put, List.setIfInBounds_toArray, List.set_cons_zero, List.set_cons_succ]) | (refine Txt.tl_load (v := ?_) (by rfl) (by rfl) (by rfl) (by kernel_rfl) ?_ ?_; rotate_left; (focus (first | assumption | (go_simp; done) | (go_simp; with_reducible rfl))); simp only [Act.put, List.setIfInBounds_toArray, List.set_cons_zero, List.set_cons_succ]) | (refine Txt.tl_loadB (v := ?_) (by rfl) (by rfl) (by rfl) (by kernel_rfl) ?_ ?_; rotate_left; (focus assumption); simp only [Act.put, List.setIfInBounds_toArray, List.set_cons_zero, List.set_cons_succ]))); refine Txt.tl_call Tryd.func49 (by kernel_rfl) (by kernel_rfl) (by rfl) (by rfl) (by rfl) (M.wnum HM.out.drew 0 rfl m 4 (by omega) (hm0 rfl) (by omega) (by (try simp only [List.length_append, be_len, sh_len]); omega)) ?_; rintro e w5 ⟨rfl, sv5, h1⟩; have HM : Hid _ := h1; clear h1; have E0 : Hid (OAt _ w.heap.size _ N Y V r (.slice a n c)) := ⟨by rw [HX.out]; exact HM.out.get 1 rfl, Hr.out⟩; obtain ⟨g0, g1, g2, g3, g36⟩ := E0.out.cells; refine ⟨_, rfl, g1, ?_⟩; simp only [Act.put, List.setIfInBounds_toArray, List.set_cons_zero, List.set_cons_succ]; (repeat (first | (refine Txt.tl_pure (v := ?_) (by rfl) ?_ ?_; rotate_left; (focus (intro _; go_simp; try with_reducible rfl)); simp only [Act.put, List.setIfInBounds_toArray, List.set_cons_zero, List.set_cons_succ]) | (refine Txt.tl_skip (by rfl) (by first | trivial | exact HS.out) ?_; simp only [Act.put, List.setIfInBounds_toArray, List.set_cons_zero, List.set_cons_succ]) | (refine Txt.tl_load (v := ?_) (by rfl) (by rfl) (by rfl) (by kernel_rfl) ?_ ?_; rotate_left; (focus (first | assumption | (go_simp; done) | (go_simp; with_reducible rfl))); simp only [Act.put, List.setIfInBounds_toArray, List.set_cons_zero, List.set_cons_succ]) | (refine Txt.tl_loadB (v := ?_) (by rfl) (by rfl) (by rfl) (by kernel_rfl) ?_ ?_; rotate_left; (focus assumption); simp only [Act.put, List.setIfInBounds_toArray, List.set_cons_zero, List.set_cons_succ]))); refine Txt.tl_nil ?_))
  (try simp only [Exit.inBlock, Exit.then])
  first | (refine bodyPost_end (results_none rfl _ _ _) rfl ?_) | (refine bodyPost_ret (results_none rfl _ _ _) rfl ?_)
  have q := M_out HM.out
  refine ⟨rfl, _, ?_, q.2⟩
  have q1 := q.1
  (try simp only [List.append_assoc] at q1 ⊢)
  exact q1
set_option maxRecDepth 100000 in
set_option maxHeartbeats 1000000 in
theorem lay_5 (w : World) (b : Nat) (bs : List UInt8) (N : Int) (Y V : ByteArray) (r : List UInt8) (a : Option Addr) (n c : Nat) (l : List (List UInt8)) (sv : Value) (h : IsW w b bs 0 sv) (hA : At w a n l) (hr : r.length = 32) (hn : n ≤ 8) (hY : Y.size ≤ 16) (hV : V.size ≤ 16) (hN0 : -2147483648 ≤ N + shf 5) (hN1 : N + shf 5 < 4294967296) (hN2 : iN 5 = true → 0 ≤ N + shf 5) (hl : bs.length ≤ 100000) (hna : n = 0 ∨ ∀ g o, a = some ⟨g, o, none⟩ → g ≠ b ∧ sv.ownBlock ≠ some g) :
    Calls Tryd.prog 50 #[.pointer (some ⟨b, 0, none⟩), .agg (oc 5 N Y V r (.slice a n c)).toArray] w fun e w' => e = .returned (.tuple #[]) ∧ ∃ sv', IsW w' b (bs ++ body 5 N Y V r l) 0 sv' ∧ After w w' b sv sv' := by
  have A0 : Hid (At w a n l) := hA
  have Hr : Hid (r.length = 32) := hr
  have HNa : Hid (n = 0 ∨ ∀ g o, a = some ⟨g, o, none⟩ → ¬ (wr b bs sv).foot g) := hna.imp id (fun q g o e f => by rcases f with f | f; exact (q g o e).1 f; exact (q g o e).2 f)
  have HM : Hid (M _ w _ [wr b bs sv, blk w.heap.size (.cells (oc 5 N Y V r (.slice a n c)).toArray 27)]) := (M_wr h).alloc _ rfl
  have E0 : Hid _ := OAt.new (K := 5) (N := N) (Y := Y) (V := V) (rv := .slice a n c) w hr
  generalize hX : (oc 5 N Y V r (.slice a n c)).toArray = X at E0 HM ⊢
  have HX : Hid ((oc 5 N Y V r (.slice a n c)).toArray = X) := hX
  obtain ⟨g0, g1, g2, g3, g36⟩ := E0.out.cells
  have hcr := conv_id _ w.heap.size 4 r hr 32 E0.out.ref
  have e : body 5 N Y V r l = sh Y ++ (sh V ++ rf l) := by simp [body, show iR 5 = false from rfl, show iK 5 = true from rfl, show iV 5 = true from rfl, show iN 5 = false from rfl, show iS 5 = true from rfl]
  rw [e]
  clear e hX hA h hna hr
  obtain ⟨m, hm⟩ : ∃ m, N + 0 = m := ⟨_, rfl⟩
  have hm2 : N + shf 5 = m := by rw [← hm]; rfl
  rw [hm2] at hN0 hN1 hN2
  (try rw [hm2])
  have hw : IntKind.i64.wrap (N + 0) = m := by rw [hm]; exact IntWalk.i64_in _ (by omega)
  (try have hw2 : IntKind.i64.wrap N = m := by rw [← hm, Int.add_zero]; exact IntWalk.i64_in _ (by omega))
  have hm0 : iN 5 = true → 0 ≤ m := hN2
  have Hm : Hid (N + 0 = m) := hm
  clear hm hm2 hN2
  go_enter Tryd.func50, Tryd.ntmps50
  go_wp2_with (first | (go_at_call_has 81 (Value.string Y); refine (M.wshort HM.out 0 rfl Y (by omega) (by (try simp only [List.length_append, be_len, sh_len]); omega)).mono ?_; rintro e w1 ⟨rfl, sv1, h1⟩; have HM : Hid _ := h1; clear h1; have E0 : Hid (OAt _ w.heap.size _ N Y V r (.slice a n c)) := ⟨by rw [HX.out]; exact HM.out.get 1 rfl, Hr.out⟩; obtain ⟨g0, g1, g2, g3, g36⟩ := E0.out.cells) | (go_at_call_has 81 (Value.string V); refine (M.wshort HM.out 0 rfl V (by omega) (by have q := Hr.out; (try simp only [List.length_append, be_len, sh_len, List.toList_toArray]); omega)).mono ?_; rintro e w2 ⟨rfl, sv2, h1⟩; have HM : Hid _ := h1; clear h1; have E0 : Hid (OAt _ w.heap.size _ N Y V r (.slice a n c)) := ⟨by rw [HX.out]; exact HM.out.get 1 rfl, Hr.out⟩; obtain ⟨g0, g1, g2, g3, g36⟩ := E0.out.cells) | (go_at_call 82; refine (M.wrefs HM.out 0 rfl c A0.out (by omega) (by (try simp only [List.length_append, be_len, sh_len]); omega) HNa.out).mono ?_; rintro e w3 ⟨rfl, sv3, h1⟩; have HM : Hid _ := h1; clear h1; have E0 : Hid (OAt _ w.heap.size _ N Y V r (.slice a n c)) := ⟨by rw [HX.out]; exact HM.out.get 1 rfl, Hr.out⟩; obtain ⟨g0, g1, g2, g3, g36⟩ := E0.out.cells))
  (try simp only [Exit.inBlock, Exit.then])
  first | (refine bodyPost_end (results_none rfl _ _ _) rfl ?_) | (refine bodyPost_ret (results_none rfl _ _ _) rfl ?_)
  have q := M_out HM.out
  refine ⟨rfl, _, ?_, q.2⟩
  have q1 := q.1
  (try simp only [List.append_assoc] at q1 ⊢)
  exact q1
set_option maxRecDepth 100000 in
set_option maxHeartbeats 1000000 in
theorem lay_6 (w : World) (b : Nat) (bs : List UInt8) (N : Int) (Y V : ByteArray) (r : List UInt8) (a : Option Addr) (n c : Nat) (l : List (List UInt8)) (sv : Value) (h : IsW w b bs 0 sv) (hA : At w a n l) (hr : r.length = 32) (hn : n ≤ 8) (hY : Y.size ≤ 16) (hV : V.size ≤ 16) (hN0 : -2147483648 ≤ N + shf 6) (hN1 : N + shf 6 < 4294967296) (hN2 : iN 6 = true → 0 ≤ N + shf 6) (hl : bs.length ≤ 100000) (hna : n = 0 ∨ ∀ g o, a = some ⟨g, o, none⟩ → g ≠ b ∧ sv.ownBlock ≠ some g) :
    Calls Tryd.prog 50 #[.pointer (some ⟨b, 0, none⟩), .agg (oc 6 N Y V r (.slice a n c)).toArray] w fun e w' => e = .returned (.tuple #[]) ∧ ∃ sv', IsW w' b (bs ++ body 6 N Y V r l) 0 sv' ∧ After w w' b sv sv' := by
  have A0 : Hid (At w a n l) := hA
  have Hr : Hid (r.length = 32) := hr
  have HNa : Hid (n = 0 ∨ ∀ g o, a = some ⟨g, o, none⟩ → ¬ (wr b bs sv).foot g) := hna.imp id (fun q g o e f => by rcases f with f | f; exact (q g o e).1 f; exact (q g o e).2 f)
  have HM : Hid (M _ w _ [wr b bs sv, blk w.heap.size (.cells (oc 6 N Y V r (.slice a n c)).toArray 27)]) := (M_wr h).alloc _ rfl
  have E0 : Hid _ := OAt.new (K := 6) (N := N) (Y := Y) (V := V) (rv := .slice a n c) w hr
  generalize hX : (oc 6 N Y V r (.slice a n c)).toArray = X at E0 HM ⊢
  have HX : Hid ((oc 6 N Y V r (.slice a n c)).toArray = X) := hX
  obtain ⟨g0, g1, g2, g3, g36⟩ := E0.out.cells
  have hcr := conv_id _ w.heap.size 4 r hr 32 E0.out.ref
  have e : body 6 N Y V r l = r ++ sh V := by simp [body, show iR 6 = true from rfl, show iK 6 = false from rfl, show iV 6 = true from rfl, show iN 6 = false from rfl, show iS 6 = false from rfl]
  rw [e]
  clear e hX hA h hna hr
  obtain ⟨m, hm⟩ : ∃ m, N + 0 = m := ⟨_, rfl⟩
  have hm2 : N + shf 6 = m := by rw [← hm]; rfl
  rw [hm2] at hN0 hN1 hN2
  (try rw [hm2])
  have hw : IntKind.i64.wrap (N + 0) = m := by rw [hm]; exact IntWalk.i64_in _ (by omega)
  (try have hw2 : IntKind.i64.wrap N = m := by rw [← hm, Int.add_zero]; exact IntWalk.i64_in _ (by omega))
  have hm0 : iN 6 = true → 0 ≤ m := hN2
  have Hm : Hid (N + 0 = m) := hm
  clear hm hm2 hN2
  go_enter Tryd.func50, Tryd.ntmps50
  go_wp2_with (first | (go_at_call 63; refine (M.wraw HM.out 0 rfl ⟨r.toArray⟩ (by rw [Byt.arr_size, Hr.out]; omega)).mono ?_; rintro e w4 ⟨rfl, sv4, h1⟩; have HM : Hid _ := h1; clear h1; have E0 : Hid (OAt _ w.heap.size _ N Y V r (.slice a n c)) := ⟨by rw [HX.out]; exact HM.out.get 1 rfl, Hr.out⟩; obtain ⟨g0, g1, g2, g3, g36⟩ := E0.out.cells) | (go_at_call_has 81 (Value.string V); refine (M.wshort HM.out 0 rfl V (by omega) (by have q := Hr.out; (try simp only [List.length_append, be_len, sh_len, List.toList_toArray]); omega)).mono ?_; rintro e w2 ⟨rfl, sv2, h1⟩; have HM : Hid _ := h1; clear h1; have E0 : Hid (OAt _ w.heap.size _ N Y V r (.slice a n c)) := ⟨by rw [HX.out]; exact HM.out.get 1 rfl, Hr.out⟩; obtain ⟨g0, g1, g2, g3, g36⟩ := E0.out.cells))
  (try simp only [Exit.inBlock, Exit.then])
  first | (refine bodyPost_end (results_none rfl _ _ _) rfl ?_) | (refine bodyPost_ret (results_none rfl _ _ _) rfl ?_)
  have q := M_out HM.out
  refine ⟨rfl, _, ?_, q.2⟩
  have q1 := q.1
  (try simp only [List.append_assoc] at q1 ⊢)
  exact q1
set_option maxRecDepth 100000 in
set_option maxHeartbeats 1000000 in
theorem lay_7 (w : World) (b : Nat) (bs : List UInt8) (N : Int) (Y V : ByteArray) (r : List UInt8) (a : Option Addr) (n c : Nat) (l : List (List UInt8)) (sv : Value) (h : IsW w b bs 0 sv) (hA : At w a n l) (hr : r.length = 32) (hn : n ≤ 8) (hY : Y.size ≤ 16) (hV : V.size ≤ 16) (hN0 : -2147483648 ≤ N + shf 7) (hN1 : N + shf 7 < 4294967296) (hN2 : iN 7 = true → 0 ≤ N + shf 7) (hl : bs.length ≤ 100000) (hna : n = 0 ∨ ∀ g o, a = some ⟨g, o, none⟩ → g ≠ b ∧ sv.ownBlock ≠ some g) :
    Calls Tryd.prog 50 #[.pointer (some ⟨b, 0, none⟩), .agg (oc 7 N Y V r (.slice a n c)).toArray] w fun e w' => e = .returned (.tuple #[]) ∧ ∃ sv', IsW w' b (bs ++ body 7 N Y V r l) 0 sv' ∧ After w w' b sv sv' := by
  have A0 : Hid (At w a n l) := hA
  have Hr : Hid (r.length = 32) := hr
  have HNa : Hid (n = 0 ∨ ∀ g o, a = some ⟨g, o, none⟩ → ¬ (wr b bs sv).foot g) := hna.imp id (fun q g o e f => by rcases f with f | f; exact (q g o e).1 f; exact (q g o e).2 f)
  have HM : Hid (M _ w _ [wr b bs sv, blk w.heap.size (.cells (oc 7 N Y V r (.slice a n c)).toArray 27)]) := (M_wr h).alloc _ rfl
  have E0 : Hid _ := OAt.new (K := 7) (N := N) (Y := Y) (V := V) (rv := .slice a n c) w hr
  generalize hX : (oc 7 N Y V r (.slice a n c)).toArray = X at E0 HM ⊢
  have HX : Hid ((oc 7 N Y V r (.slice a n c)).toArray = X) := hX
  obtain ⟨g0, g1, g2, g3, g36⟩ := E0.out.cells
  have hcr := conv_id _ w.heap.size 4 r hr 32 E0.out.ref
  have e : body 7 N Y V r l = r := by simp [body, show iR 7 = true from rfl, show iK 7 = false from rfl, show iV 7 = false from rfl, show iN 7 = false from rfl, show iS 7 = false from rfl]
  rw [e]
  clear e hX hA h hna hr
  obtain ⟨m, hm⟩ : ∃ m, N + 0 = m := ⟨_, rfl⟩
  have hm2 : N + shf 7 = m := by rw [← hm]; rfl
  rw [hm2] at hN0 hN1 hN2
  (try rw [hm2])
  have hw : IntKind.i64.wrap (N + 0) = m := by rw [hm]; exact IntWalk.i64_in _ (by omega)
  (try have hw2 : IntKind.i64.wrap N = m := by rw [← hm, Int.add_zero]; exact IntWalk.i64_in _ (by omega))
  have hm0 : iN 7 = true → 0 ≤ m := hN2
  have Hm : Hid (N + 0 = m) := hm
  clear hm hm2 hN2
  go_enter Tryd.func50, Tryd.ntmps50
  go_wp2_with (first | (go_at_call 63; refine (M.wraw HM.out 0 rfl ⟨r.toArray⟩ (by rw [Byt.arr_size, Hr.out]; omega)).mono ?_; rintro e w4 ⟨rfl, sv4, h1⟩; have HM : Hid _ := h1; clear h1; have E0 : Hid (OAt _ w.heap.size _ N Y V r (.slice a n c)) := ⟨by rw [HX.out]; exact HM.out.get 1 rfl, Hr.out⟩; obtain ⟨g0, g1, g2, g3, g36⟩ := E0.out.cells))
  (try simp only [Exit.inBlock, Exit.then])
  first | (refine bodyPost_end (results_none rfl _ _ _) rfl ?_) | (refine bodyPost_ret (results_none rfl _ _ _) rfl ?_)
  have q := M_out HM.out
  refine ⟨rfl, _, ?_, q.2⟩
  have q1 := q.1
  (try simp only [List.append_assoc] at q1 ⊢)
  exact q1
end Ox
end Go.Proofs.YtfoplimdbapdfaaDoor
