/-
  Rows of bytes of one's own: appended to byte by byte, made a string.
-/
import Derived.Test.YtmnmemeldjbifaaIds4
import Derived.Test.YtmnmemeldjbifaaOct4
import Derived.OwnWalk
set_option linter.unusedVariables false
set_option linter.unusedSimpArgs false
namespace Go.Proofs.Ytmnmemeldjbifaa
open Go.RowKit
namespace Byt
open Oct

theorem arr_size (l : List UInt8) : (⟨l.toArray⟩ : ByteArray).size = l.length := by show l.toArray.size = _; simp
theorem arr_app (l m : List UInt8) : (⟨(l ++ m).toArray⟩ : ByteArray) = ⟨l.toArray⟩ ++ ⟨m.toArray⟩ := by
  apply ByteArray.ext
  simp
theorem arr_back (B : ByteArray) : (⟨B.data.toList.toArray⟩ : ByteArray) = B := by
  apply ByteArray.ext
  simp
/-- A row of bytes of one's own. -/
structure Own (w : World) (v : Value) (bs : List UInt8) : Prop where
  own : w.ownsRow 0 5 1 v bs.length (bs.map bv)
theorem Own.nil (w : World) : Own w (.slice none 0 0) [] := ⟨⟨rfl, .inl ⟨rfl, rfl⟩⟩⟩
section
variable {w w' : World} {v : Value} {bs : List UInt8}
theorem Own.keep (h : Own w v bs) {S : Nat → Prop} (hk : Keep S w w') (hn : ∀ k, v.ownBlock = some k → ¬ S k) : Own w' v bs := ⟨hk.row h.own hn⟩
theorem Own.calm (h : Own w v bs) (hk : Keep (fun _ => False) w w') : Own w' v bs := h.keep hk (fun _ _ h => h)
theorem Own.lt (h : Own w v bs) {k : Nat} (hk : v.ownBlock = some k) : k < w.heap.size := (h.own.lt _ hk).2
theorem Own.form (h : Own w v bs) : ∃ a c, v = .slice a bs.length c := own_form h.own
theorem Own.str (h : Own w v bs) : (convert 53 9 v).run Try.prog w = .ok (.string ⟨bs.toArray⟩) w := own_string w bs v h.own
end
section
variable {ops : Array Oper} {rest : List Oper} {o : Oper} {a : Act} {w : World} {K : Act → World → Prop} {Q : Exit → Act → World → Prop}
/-- 'append(out, c)'. -/
theorem wp_app1 {s x : Operand} (ho : o.op = .call { callee := .builtin .append, args := #[s, x], argTypes := #[53, 53] }) {v : Value} {bs : List UInt8} (hs : a.eval s = v) (hown : Own w v bs)
    {g : Nat} (hx : a.eval x = .slice (some ⟨g, 0, none⟩) 1 1) {d : UInt8} {fr : Nat × Nat} (hg : w.heap[g]? = some (.cells #[bv d] 5 fr)) (hm : bs.length ≤ 1000000)
    (h : ∀ v' w', Own w' v' (bs ++ [d]) → Keep (fun k => v.ownBlock = some k) w w' → (v'.ownBlock = v.ownBlock ∨ v'.ownBlock = some w.heap.size) → K (a.put o.dst v') w') : o.wp Try.prog a w K Q := by
  refine wp_app slU8 ho (xs := bs.map bv) (v := v) (n := bs.length) hs hown.own [bv d] hx (by simp) (World.news_of_block hg) (by simp [bv, Value.oneCell']) (by unfold maxLen; omega) (by omega) ?_
  intro v' w' hA
  refine h v' w' ⟨?_⟩ hA.keep hA.at_
  have e := hA.own
  rw [show bs.map bv ++ [bv d] = (bs ++ [d]).map bv by simp] at e
  simpa using e
theorem wl_app1 (hgd : o.guard = none) {s x : Operand} (ho : o.op = .call { callee := .builtin .append, args := #[s, x], argTypes := #[53, 53] }) {v : Value} {bs : List UInt8} (hs : a.eval s = v) (hown : Own w v bs)
    {g : Nat} (hx : a.eval x = .slice (some ⟨g, 0, none⟩) 1 1) {d : UInt8} {fr : Nat × Nat} (hg : w.heap[g]? = some (.cells #[bv d] 5 fr)) (hm : bs.length ≤ 1000000)
    (h : ∀ v' w', Own w' v' (bs ++ [d]) → Keep (fun k => v.ownBlock = some k) w w' → (v'.ownBlock = v.ownBlock ∨ v'.ownBlock = some w.heap.size) → wpList Try.prog ops Q rest (a.put o.dst v') w') : wpList Try.prog ops Q (o :: rest) a w :=
  wpList_plain hgd fun _ hK => wp_app1 ho hs hown hx hg hm fun v' w' h1 h2 h3 => hK _ _ (h v' w' h1 h2 h3)
theorem made_zero (n : Nat) : (madeCells (Value.int .u8 0).cells (n * 1)).toList = (List.replicate n (0 : UInt8)).map bv := by
  apply List.ext_getElem
  · simp [madeCells]
  · intro i h1 h2
    simp [madeCells, Value.cells, Nat.mod_one, bv]
/-- 'make([]byte, n)'. -/
theorem wl_make (hgd : o.guard = none) {l c : Operand} (ho : o.op = .makeSlice 53 l c) {L C : Int} {n : Nat} (hl : a.eval l = .int .i64 L) (hc : a.eval c = .int .i64 C) (hL : L = (n : Int)) (hC : C = (n : Int)) (hn : n ≤ 1000000) {b : Nat} (hb : w.heap.size = b)
    (h : ∀ w', Own w' (.slice (some ⟨b, 0, none⟩) n n) (List.replicate n 0) → Keep (fun _ => False) w w' → b < w'.heap.size → wpList Try.prog ops Q rest (a.put o.dst (.slice (some ⟨b, 0, none⟩) n n)) w') : wpList Try.prog ops Q (o :: rest) a w := by
  subst hb
  obtain ⟨i, hi, hz, hs, hby⟩ := slU8.info
  refine wpList_make_full w hgd l c 53 ho 0 5 i (.int .u8 0) 1 slU8.und hi hz hs .i64 .i64 L C n hl hc hL hC (by rw [hby]; omega) (by unfold maxLen; omega) (Nat.zero_le _) ?_
  intro w' h1 h2
  rw [made_zero] at h1
  refine h w' ⟨by rw [List.length_replicate]; exact h1⟩ ((Keep.refl _ w).grown h2 (fun k hk => by cases hk)) (h1.lt _ rfl).2
end
end Byt
end Go.Proofs.Ytmnmemeldjbifaa
