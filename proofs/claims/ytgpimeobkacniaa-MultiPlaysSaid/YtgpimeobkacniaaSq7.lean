/-
  seq.Order.
-/
import Derived.Test.YtgpimeobkacniaaSq6
import Derived.Great.BuildSlice
set_option linter.unusedVariables false
set_option linter.unusedSimpArgs false
namespace Go.Proofs.Ytgpimeobkacniaa
open Go.RowKit
namespace Sq
open Oct Ids Mp
open Mem (M It blk ids rows)
abbrev tF : TypeId := 99
section
variable {ops : Array Oper} {rest : List Oper} {o : Oper} {a : Act} {w : World} {Q : Exit → Act → World → Prop}
/-- A value of one cell stored into a block of one. -/
theorem wl_storeO {T t : TypeId} (hgd : o.guard = none) {x y : Operand} (ho : o.op = .store T x y) (hd : o.dst = none) {g : Nat} (hx : a.eval x = .pointer (some ⟨g, 0, none⟩)) {v : Value} (hy : a.eval y = v) (hv : v.oneCell' = true) {old : Value} (hg : w.heap[g]? = some (.cells #[old] t (0, 0))) (hi : (Try.prog.info? T).map (·.size) = some 1)
    (h : wpList Try.prog ops Q rest a (w.setRow g #[v])) : wpList Try.prog ops Q (o :: rest) a w := by
  subst hy
  refine wpList_store_one hgd T x y ho g hx hv t old hg hi ?_
  rw [hd]
  exact h
end
/-- What Order comes to. -/
structure OrdPost (w : World) (b bn bb bg : Nat) (N : Nds) (B : Bhs) (G : List (List UInt8)) (l : List (List UInt8)) (e : Ending) (w' : World) : Prop where
  ex : ∃ v, e = .returned v ∧ M (foot b bn bb bg B) w w' [sqI b bn bb bg N B G, ids v l]
set_option maxRecDepth 100000 in
set_option maxHeartbeats 8000000 in
theorem order_any (w : World) (b bn bb bg : Nat) (N : Nds) (B : Bhs) (G : List (List UInt8)) (h : SqAt w b bn bb bg N B G) (hB : ∀ r, (rowsB B r).length ≤ 1000) (n : Nat) (hd : Dep (rowsB B) n Zi) (hl : (pre (rowsB B) (n + 1) Zi).length ≤ 10000) :
    Calls Try.prog 16 #[.pointer (some ⟨b, 0, none⟩)] w (OrdPost w b bn bb bg N B G (pre (rowsB B) (n + 1) Zi)) := by
  have HM : Hid (M (foot b bn bb bg B) w _ [sqI b bn bb bg N B G, blk w.heap.size (.cells #[.pointer (some ⟨b, 0, none⟩)] 25)]) :=
    ((M.start1 (x := sqI b bn bb bg N B G) h (fun k hk => by
      rcases hk with (hk | hk | hk | hk) | hk
      · exact (h.all.rng 0 _ rfl k hk).2
      · exact (h.all.rng 1 _ rfl k hk).2
      · exact (h.all.rng 2 _ rfl k hk).2
      · exact (h.all.rng 3 _ rfl k hk).2
      · exact (h.all.rng 4 _ rfl k hk).2)).alloc (.cells #[.pointer (some ⟨b, 0, none⟩)] 25) rfl)
  have HD : Hid (∀ tf sb ob fb, Down tf b bn bb bg N B G sb ob fb Zi (pre (rowsB B) (n + 1) Zi)) := fun tf sb ob fb => down_any tf b bn bb bg N B G sb ob fb hB n Zi rfl hd
  have HL : Hid ((pre (rowsB B) (n + 1) Zi).length ≤ 10000) := hl
  generalize pre (rowsB B) (n + 1) Zi = l at HD HL ⊢
  have cs := HM.out.cell 1 rfl 0 (v := .pointer (some ⟨b, 0, none⟩)) rfl
  clear h hB hd hl
  go_enter Try.func16, Try.ntmps16
  go_wp2_with (first | (go_at_call 52; refine (snone _ b bn bb bg N B G (HM.out.get 0 rfl)).mono ?_; rintro e w1 ⟨rfl, rfl⟩) | ((with_reducible refine at_store tF ?_); have HM : Hid _ := (HM.out.alloc (.cells #[.slice none 0 0] 29) (b := w.heap.size + 1) (by simp)).alloc (.cells #[.nilFunc] tF) (b := w.heap.size + 1 + 1) (by simp); refine wl_storeO (v := Value.func (.func 53) #[] #[.pointer (some ⟨w.heap.size, 0, none⟩), .pointer (some ⟨w.heap.size + 1, 0, none⟩), .pointer (some ⟨w.heap.size + 1 + 1, 0, none⟩)]) rfl rfl rfl rfl rfl rfl (HM.out.get 3 rfl) (by kernel_rfl) ?_; have HM : Hid (M (foot b bn bb bg B) w _ (its tF b bn bb bg N B G w.heap.size (w.heap.size + 1) (w.heap.size + 1 + 1) (.slice none 0 0) [])) := (HM.out.setr 3 rfl #[Value.func (.func 53) #[] #[.pointer (some ⟨w.heap.size, 0, none⟩), .pointer (some ⟨w.heap.size + 1, 0, none⟩), .pointer (some ⟨w.heap.size + 1 + 1, 0, none⟩)]]).nilI; have cf := HM.out.cell 3 rfl 0 (v := Value.func (.func 53) #[] #[.pointer (some ⟨w.heap.size, 0, none⟩), .pointer (some ⟨w.heap.size + 1, 0, none⟩), .pointer (some ⟨w.heap.size + 1 + 1, 0, none⟩)]) rfl) | (refine St.wl_buildV (T := 35) (parts := #[]) rfl rfl (cs := z32) (by kernel_rfl) ?_; simp only [Act.put, List.setIfInBounds_toArray, List.set_cons_zero, List.set_cons_succ]) | ((with_reducible refine at_callv ?_); refine wl_callv rfl rfl rfl down_eg (vs := #[idv Zi]) rfl (HD.out tF w.heap.size (w.heap.size + 1) (w.heap.size + 1 + 1) (foot b bn bb bg B) w _ (.slice none 0 0) [] (by have := HL.out; simp only [List.length_nil]; omega) HM.out) ?_; rintro e w9 ⟨rfl, v9, m9⟩; rw [List.nil_append] at m9; have HM : Hid _ := m9; have co := HM.out.cell 2 rfl 0 (v := v9) rfl; clear m9 cf; refine ⟨_, rfl, ?_⟩; simp only [Act.put, List.setIfInBounds_toArray, List.set_cons_zero, List.set_cons_succ]))
  go_ret
  exact ⟨v9, rfl, HM.out.sub _ [0, 4] (by decide) rfl⟩
end Sq
end Go.Proofs.Ytgpimeobkacniaa
