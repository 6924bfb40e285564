/-
  fetch: the door 'awake'.
-/
import Derived.Test.YtgllkfolckbdhaaFeC
set_option linter.unusedVariables false
set_option linter.unusedSimpArgs false
namespace Go.Proofs.Ytgllkfolckbdhaa
open Go.RowKit
namespace Fe
open Oct Ids Mp
open Mem (M It blk ids rows)
section
variable {ops : Array Oper} {rest : List Oper} {o : Oper} {a : Act} {w : World} {Q : Exit → Act → World → Prop}
/-- 'load an id', guarded or not. -/
theorem wl_loadG (hw : Region.wanted o (yielded ops a.tmps) = true) {x : Operand} (ho : o.op = .load 32 x) {b i : Nat} (hx : a.eval x = .pointer (some ⟨b, i, none⟩)) {l : List UInt8} (hl : l.length = 32) (hr : w.rangeAt b i (l.map bv))
    (h : wpList Try.prog ops Q rest (a.put o.dst (idv l)) w) : wpList Try.prog ops Q (o :: rest) a w :=
  wpList_step fun K hK => by
    rw [if_pos hw]
    exact wp_load_mid _ x ho b i hx (l.map bv) _ hr Try.underlying32 rfl (by rw [info32, List.length_map, hl]) (hK _ _ h)
end
def prI (y z : It) : It := ⟨fun k => y.foot k ∨ z.foot k, fun w => y.holds w ∧ z.holds w, fun w w' S h k n => ⟨y.stable w w' S h.1 k (fun j hj => n j (.inl hj)), z.stable w w' S h.2 k (fun j hj => n j (.inr hj))⟩⟩
/-- A call that leaves two things where one was. -/
theorem M.two {F : Nat → Prop} {w0 w w' : World} {l : List It} {x y z : It} (h : M F w0 w l) (i : Nat) (hi : l[i]? = some x) (m : M x.foot w w' [y, z]) : M F w0 w' (l.set i y ++ [z]) := by
  have h1 := h.upd i hi m.keep (fun _ h => h) (y := prI y z) ⟨m.get 0 rfl, m.get 1 rfl⟩ (fun k hk => by
    rcases hk with hk | hk
    · have := m.rng 0 _ rfl k hk
      exact this.1.elim (fun h => .inr ⟨h, this.2⟩) .inl
    · have := m.rng 1 _ rfl k hk
      exact this.1.elim (fun h => .inr ⟨h, this.2⟩) .inl)
  have hlt := (List.getElem?_eq_some_iff.1 hi).1
  have hpi : (l.set i (prI y z))[i]? = some (prI y z) := List.getElem?_set_self hlt
  have at_ : ∀ (j : Nat) (u : It), (l.set i y ++ [z])[j]? = some u → (j ≠ i ∧ (l.set i (prI y z))[j]? = some u) ∨ (j = i ∧ u = y) ∨ (j = l.length ∧ u = z) := by
    intro j u hj
    rcases Nat.lt_or_ge j l.length with hl | hg
    · rw [List.getElem?_append_left (by rw [List.length_set]; exact hl)] at hj
      by_cases e : j = i
      · subst e
        rw [List.getElem?_set_self hlt] at hj
        exact .inr (.inl ⟨rfl, (Option.some.inj hj).symm⟩)
      · rw [List.getElem?_set_ne (Ne.symm e)] at hj
        exact .inl ⟨e, by rw [List.getElem?_set_ne (Ne.symm e)]; exact hj⟩
    · rw [List.getElem?_append_right (by rw [List.length_set]; exact hg), List.length_set] at hj
      have h0 := (List.getElem?_eq_some_iff.1 hj).1
      simp at h0
      have e : j = l.length := by omega
      subst e
      simp at hj
      exact .inr (.inr ⟨rfl, hj.symm⟩)
  have hyz : ∀ k, y.foot k → ¬ z.foot k := fun k hy hz => m.dis 0 1 _ _ rfl rfl (by decide) k hy hz
  refine ⟨fun j u hj => ?_, fun j q u v hj hq hjq k hu hv => ?_, fun j u hj k hk => ?_, h1.keep⟩
  · rcases at_ j u hj with ⟨_, h2⟩ | ⟨_, rfl⟩ | ⟨_, rfl⟩
    · exact h1.all j u h2
    · exact m.get 0 rfl
    · exact m.get 1 rfl
  · rcases at_ j u hj with ⟨n1, h2⟩ | ⟨e1, rfl⟩ | ⟨e1, rfl⟩ <;> rcases at_ q v hq with ⟨n2, h3⟩ | ⟨e2, rfl⟩ | ⟨e2, rfl⟩
    · exact h1.dis j q u v h2 h3 hjq k hu hv
    · exact h1.dis j i u _ h2 hpi n1 k hu (.inl hv)
    · exact h1.dis j i u _ h2 hpi n1 k hu (.inr hv)
    · exact h1.dis q i v _ h3 hpi n2 k hv (.inl hu)
    · omega
    · exact hyz k hu hv
    · exact h1.dis q i v _ h3 hpi n2 k hv (.inr hu)
    · exact hyz k hv hu
    · omega
  · rcases at_ j u hj with ⟨_, h2⟩ | ⟨_, rfl⟩ | ⟨_, rfl⟩
    · exact h1.rng j u h2 k hk
    · exact h1.rng i _ hpi k (.inl hk)
    · exact h1.rng i _ hpi k (.inr hk)
theorem p_of {w : World} {g c : Nat} {y : Fd} (h : OwnF w (.slice (some ⟨g, 0, none⟩) 1 c) [y]) : w.cell? ⟨g, 32, none⟩ = some (.int .i64 y.p) := by
  have := own_rng h (i := 0) rfl 32 (.int .i64 y.p) (by have := fe_p y; rwa [List.getElem?_toArray] at this)
  rwa [Nat.zero_mul, Nat.zero_add] at this
theorem one_form {w : World} {v : Value} {y : Fd} (h : OwnF w v [y]) : ∃ g c, v = .slice (some ⟨g, 0, none⟩) 1 c := by
  rcases own_form h with ⟨_, e⟩ | ⟨g, c, e⟩
  · cases e
  · exact ⟨g, c, e⟩
set_option maxRecDepth 100000 in
set_option maxHeartbeats 4000000 in
theorem awakeF (w : World) : Calls Try.prog 12 #[] w fun e w' => e = .returned (.bool true) ∧ Keep (fun _ => False) w w' := by
  have HN : Hid (Calls Try.prog 6 #[.int .i64 0] w fun e w' => ∃ b b2, e = .returned (.tuple #[.pointer (some ⟨b, 0, none⟩), .int .i64 0]) ∧ M (fun _ => False) w w' [ftI b b2 (.slice none 0 0) (.slice none 0 0) [] [] 0 zeros6 0]) := fnew w 0 (by decide)
  go_enter Try.func12, Try.ntmps12
  go_wp2_with (first | (go_at_call 6; refine HN.out.mono ?_; rintro e w1 ⟨b, b2, rfl, m1⟩; have HM : Hid (M (fun _ => False) w w1 [ftI b b2 (.slice none 0 0) (.slice none 0 0) [] [] 0 zeros6 0]) := m1; clear m1) | (refine wl_buildL rfl rfl [(0, .int .u8 1)] rfl (cs := (U1.map bv).toArray) (by kernel_rfl) ?_; simp only [Act.put, List.setIfInBounds_toArray, List.set_cons_zero, List.set_cons_succ]) | (refine Ids.wl_build (l := U1) rfl rfl rfl rfl ?_; have HM : Hid _ := HM.out.alloc (.cells (U1.map bv).toArray 32) rfl; simp only [Act.put, List.setIfInBounds_toArray, List.set_cons_zero, List.set_cons_succ]) | (go_at_call_has 9 (Value.int .i64 0); refine (fround _ b b2 _ _ [] [] 0 zeros6 0 (HM.out.get 0 rfl) (fun x hx => by cases hx) (by decide) (by decide) (zeros_ok (by decide)) (by decide) _ 1 1 [U1] (iat1 (HM.out.get 1 rfl) rfl) (by decide) 0).mono ?_; rintro e w2 ⟨v2, lv2, hv2, rfl, m2⟩; rw [rd1, rd1b] at m2; have HM : Hid (M (fun _ => False) w w2 [ftI b b2 lv2 hv2 [F1] [] 0 zeros6 0, blk w1.heap.size (.cells (U1.map bv).toArray 32), rF v2 [F1]]) := M.two HM.out 0 rfl m2; obtain ⟨g2, c2, e2⟩ := one_form (HM.out.get 2 rfl); subst e2; clear m2) | (go_at_call_has 9 (Value.int .i64 4); refine (fround _ b b2 _ _ [F1] [] 0 zeros6 0 (HM.out.get 0 rfl) (fun x hx => by rw [List.mem_singleton.1 hx]; exact ⟨.inr (by decide), by decide⟩) (by decide) (by decide) (zeros_ok (by decide)) (by decide) _ 1 1 [U1] (iat1 (HM.out.get 3 rfl) rfl) (by decide) 4).mono ?_; rintro e w3 ⟨v3, lv3, hv3, rfl, m3⟩; rw [rd2, rd2b] at m3; have HM : Hid (M (fun _ => False) w w3 [ftI b b2 lv3 hv3 [F2] [] 0 [0, -1, 0, 0, 0, 0] 0, blk w1.heap.size (.cells (U1.map bv).toArray 32), rF (.slice (some ⟨g2, 0, none⟩) 1 c2) [F1], blk w2.heap.size (.cells (U1.map bv).toArray 32), rF v3 [F2]]) := M.two HM.out 0 rfl m3; obtain ⟨g3, c3, e3⟩ := one_form (HM.out.get 4 rfl); subst e3; clear m3; have p2 : w3.cell? ⟨g2, 32, none⟩ = some (.int .i64 1) := p_of (y := F1) (HM.out.get 2 rfl); have p3 : w3.cell? ⟨g3, 32, none⟩ = some (.int .i64 2) := p_of (y := F2) (HM.out.get 4 rfl)) | (go_at_call 7; refine (fboard _ b b2 (FAt.cells (HM.out.get 0 rfl)).2.1).mono ?_; rintro e w4 ⟨rfl, h4⟩; replace h4 := h4.symm; subst h4) | (go_at_call 32; refine (bscore _ b2 [0, -1, 0, 0, 0, 0] 0 ⟨rfl, fun n hn => by simp at hn; omega, by decide⟩ (FAt.bd (HM.out.get 0 rfl)) 1).mono ?_; rintro e w5 ⟨rfl, h5⟩; replace h5 := h5.symm; subst h5; rw [show (if isP 0 1 then ([0, -1, 0, 0, 0, 0] : List Int).getD (1 : Int).toNat 0 else 0) = -1 from rfl]))
  go_ret
  exact ⟨rfl, HM.out.keep⟩
end Fe
end Go.Proofs.Ytgllkfolckbdhaa
