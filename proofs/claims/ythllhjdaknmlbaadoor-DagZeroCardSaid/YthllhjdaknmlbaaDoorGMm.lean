/-
  Rows of bytes of one's own: appended to byte by byte, made a string. What a function holds in memory, as one list of things that lie apart from one another, each in memory made since the function began. Operations on whole structs: made, stored, loaded, appended; rows of structs. Rows of structs: of one's own, in memory; made of one, appended to.
-/
import Derived.Test.YthllhjdaknmlbaaDoorGId
import Derived.Test.YthllhjdaknmlbaaDoorGOc
import Derived.OwnWalk
import Derived.Deep.Cut
import Derived.Sort.AtCall
set_option linter.unusedVariables false
set_option linter.unusedSimpArgs false

namespace Go.Proofs.YthllhjdaknmlbaaDoor
open Go.RowKit
namespace Byt
open Oct

theorem arr_size (l : List UInt8) : (⟨l.toArray⟩ : ByteArray).size = l.length := by show l.toArray.size = _; simp
theorem arr_app (l m : List UInt8) : (⟨(l ++ m).toArray⟩ : ByteArray) = ⟨l.toArray⟩ ++ ⟨m.toArray⟩ := by
  apply ByteArray.ext
  simp
theorem arr_back (B : ByteArray) : (⟨B.data.toList.toArray⟩ : ByteArray) = B := by
  apply ByteArray.ext
  simp
/-- A row of bytes of one's own. -/
structure Own (w : World) (v : Value) (bs : List UInt8) : Prop where
  own : w.ownsRow 0 5 1 v bs.length (bs.map bv)
theorem Own.nil (w : World) : Own w (.slice none 0 0) [] := ⟨⟨rfl, .inl ⟨rfl, rfl⟩⟩⟩
section
variable {w w' : World} {v : Value} {bs : List UInt8}
theorem Own.keep (h : Own w v bs) {S : Nat → Prop} (hk : Keep S w w') (hn : ∀ k, v.ownBlock = some k → ¬ S k) : Own w' v bs := ⟨hk.row h.own hn⟩
theorem Own.calm (h : Own w v bs) (hk : Keep (fun _ => False) w w') : Own w' v bs := h.keep hk (fun _ _ h => h)
theorem Own.lt (h : Own w v bs) {k : Nat} (hk : v.ownBlock = some k) : k < w.heap.size := (h.own.lt _ hk).2
theorem Own.form (h : Own w v bs) : ∃ a c, v = .slice a bs.length c := own_form h.own
theorem Own.str (h : Own w v bs) : (convert 81 9 v).run Tryd.prog w = .ok (.string ⟨bs.toArray⟩) w := own_string w bs v h.own
end
section
variable {ops : Array Oper} {rest : List Oper} {o : Oper} {a : Act} {w : World} {K : Act → World → Prop} {Q : Exit → Act → World → Prop}
/-- 'append(out, c)'. -/
theorem wp_app1 {s x : Operand} (ho : o.op = .call { callee := .builtin .append, args := #[s, x], argTypes := #[81, 81] }) {v : Value} {bs : List UInt8} (hs : a.eval s = v) (hown : Own w v bs)
    {g : Nat} (hx : a.eval x = .slice (some ⟨g, 0, none⟩) 1 1) {d : UInt8} {fr : Nat × Nat} (hg : w.heap[g]? = some (.cells #[bv d] 5 fr)) (hm : bs.length ≤ 1000000)
    (h : ∀ v' w', Own w' v' (bs ++ [d]) → Keep (fun k => v.ownBlock = some k) w w' → (v'.ownBlock = v.ownBlock ∨ v'.ownBlock = some w.heap.size) → K (a.put o.dst v') w') : o.wp Tryd.prog a w K Q := by
  refine wp_app slU8 ho (xs := bs.map bv) (v := v) (n := bs.length) hs hown.own [bv d] hx (by simp) (World.news_of_block hg) (by simp [bv, Value.oneCell']) (by unfold maxLen; omega) (by omega) ?_
  intro v' w' hA
  refine h v' w' ⟨?_⟩ hA.keep hA.at_
  have e := hA.own
  rw [show bs.map bv ++ [bv d] = (bs ++ [d]).map bv by simp] at e
  simpa using e
theorem wl_app1 (hgd : o.guard = none) {s x : Operand} (ho : o.op = .call { callee := .builtin .append, args := #[s, x], argTypes := #[81, 81] }) {v : Value} {bs : List UInt8} (hs : a.eval s = v) (hown : Own w v bs)
    {g : Nat} (hx : a.eval x = .slice (some ⟨g, 0, none⟩) 1 1) {d : UInt8} {fr : Nat × Nat} (hg : w.heap[g]? = some (.cells #[bv d] 5 fr)) (hm : bs.length ≤ 1000000)
    (h : ∀ v' w', Own w' v' (bs ++ [d]) → Keep (fun k => v.ownBlock = some k) w w' → (v'.ownBlock = v.ownBlock ∨ v'.ownBlock = some w.heap.size) → wpList Tryd.prog ops Q rest (a.put o.dst v') w') : wpList Tryd.prog ops Q (o :: rest) a w :=
  wpList_plain hgd fun _ hK => wp_app1 ho hs hown hx hg hm fun v' w' h1 h2 h3 => hK _ _ (h v' w' h1 h2 h3)
theorem made_zero (n : Nat) : (madeCells (Value.int .u8 0).cells (n * 1)).toList = (List.replicate n (0 : UInt8)).map bv := by
  apply List.ext_getElem
  · simp [madeCells]
  · intro i h1 h2
    simp [madeCells, Value.cells, Nat.mod_one, bv]
/-- 'make([]byte, n)'. -/
theorem wl_make (hgd : o.guard = none) {l c : Operand} (ho : o.op = .makeSlice 81 l c) {L C : Int} {n : Nat} (hl : a.eval l = .int .i64 L) (hc : a.eval c = .int .i64 C) (hL : L = (n : Int)) (hC : C = (n : Int)) (hn : n ≤ 1000000) {b : Nat} (hb : w.heap.size = b)
    (h : ∀ w', Own w' (.slice (some ⟨b, 0, none⟩) n n) (List.replicate n 0) → Keep (fun _ => False) w w' → b < w'.heap.size → wpList Tryd.prog ops Q rest (a.put o.dst (.slice (some ⟨b, 0, none⟩) n n)) w') : wpList Tryd.prog ops Q (o :: rest) a w := by
  subst hb
  obtain ⟨i, hi, hz, hs, hby⟩ := slU8.info
  refine wpList_make_full w hgd l c 81 ho 0 5 i (.int .u8 0) 1 slU8.und hi hz hs .i64 .i64 L C n hl hc hL hC (by rw [hby]; omega) (by unfold maxLen; omega) (Nat.zero_le _) ?_
  intro w' h1 h2
  rw [made_zero] at h1
  refine h w' ⟨by rw [List.length_replicate]; exact h1⟩ ((Keep.refl _ w).grown h2 (fun k hk => by cases hk)) (h1.lt _ rfl).2
end
end Byt
end Go.Proofs.YthllhjdaknmlbaaDoor


namespace Go.Proofs.YthllhjdaknmlbaaDoor
open Go.RowKit
namespace Mem
open Oct

/-- A thing in memory: the blocks in which it lies, what is so of it; it stays so while these blocks stay. -/
structure It where
  foot : Nat → Prop
  holds : World → Prop
  stable : ∀ (w w' : World) (S : Nat → Prop), holds w → Keep S w w' → (∀ k, foot k → ¬ S k) → holds w'
/-- A block, known whole. -/
def blk (b : Nat) (o : Obj) : It := ⟨fun k => k = b, fun w => w.heap[b]? = some o, fun _ _ _ h k n => k.get h (n b rfl)⟩
/-- A row of one's own. -/
def row (e : TypeId) (size : Nat) (v : Value) (n : Nat) (xs : List Value) : It := ⟨fun k => v.ownBlock = some k, fun w => w.ownsRow 0 e size v n xs, fun _ _ _ h k n => k.row h n⟩
/-- A writer. -/
def wr (b : Nat) (bs : List UInt8) (sv : Value) : It := ⟨fun k => k = b ∨ sv.ownBlock = some k, fun w => IsW w b bs 0 sv, fun _ _ _ h k n => h.keep k (n b (.inl rfl)) (fun k hk => n k (.inr hk))⟩
/-- Ids of one's own. -/
def ids (v : Value) (els : List (List UInt8)) : It := ⟨fun k => v.ownBlock = some k, fun w => Ids.Own w v els, fun _ _ _ h k n => h.keep k n⟩
/-- Bytes of one's own. -/
def byt (v : Value) (bs : List UInt8) : It := ⟨fun k => v.ownBlock = some k, fun w => Byt.Own w v bs, fun _ _ _ h k n => h.keep k n⟩
/-- Something that is so whatever happens. -/
def pure (p : Prop) : It := ⟨fun _ => False, fun _ => p, fun _ _ _ h _ _ => h⟩

/-- All that is held. -/
structure M (F : Nat → Prop) (w0 w : World) (l : List It) : Prop where
  all : ∀ (i : Nat) (x : It), l[i]? = some x → x.holds w
  dis : ∀ (i j : Nat) (x y : It), l[i]? = some x → l[j]? = some y → i ≠ j → ∀ k, x.foot k → ¬ y.foot k
  rng : ∀ (i : Nat) (x : It), l[i]? = some x → ∀ k, x.foot k → (w0.heap.size ≤ k ∨ F k) ∧ k < w.heap.size
  keep : Keep F w0 w
section
variable {F : Nat → Prop} {w0 w w' : World} {l : List It}
theorem M.start (F : Nat → Prop) (w : World) : M F w w [] := ⟨by simp, by simp, by simp, Keep.refl _ _⟩
theorem M.start1 {x : It} (hx : x.holds w) (hl : ∀ k, x.foot k → k < w.heap.size) : M x.foot w w [x] := by
  have at_ : ∀ (i : Nat) (y : It), [x][i]? = some y → y = x ∧ i = 0 := by
    intro i y hi
    cases i with
    | zero => simp at hi; exact ⟨hi.symm, rfl⟩
    | succ i => simp at hi
  refine ⟨fun i y hi => ?_, fun i j y z hi hj hij => ?_, fun i y hi k hk => ?_, Keep.refl _ _⟩
  · obtain ⟨rfl, _⟩ := at_ i y hi; exact hx
  · have h1 := (at_ i y hi).2; have h2 := (at_ j z hj).2; omega
  · obtain ⟨rfl, _⟩ := at_ i y hi; exact ⟨.inr hk, hl k hk⟩
theorem M.calm (h : M F w0 w l) (k : Keep (fun _ => False) w w') : M F w0 w' l :=
  ⟨fun i x hi => x.stable w w' _ (h.all i x hi) k (fun _ _ h => h), h.dis, fun i x hi b hb => ⟨(h.rng i x hi b hb).1, Nat.lt_of_lt_of_le (h.rng i x hi b hb).2 k.size⟩, h.keep.trans' k (fun _ _ h => h) (fun _ _ h => h.elim)⟩
theorem M.add (h : M F w0 w l) {x : It} (k : Keep (fun _ => False) w w') (hx : x.holds w') (hf : ∀ k, x.foot k → w.heap.size ≤ k ∧ k < w'.heap.size) : M F w0 w' (l ++ [x]) := by
  have at_ : ∀ (i : Nat) (y : It), (l ++ [x])[i]? = some y → (l[i]? = some y ∧ i < l.length) ∨ (y = x ∧ i = l.length) := by
    intro i y hi
    rcases Nat.lt_or_ge i l.length with hlt | hge
    · rw [List.getElem?_append_left hlt] at hi; exact .inl ⟨hi, hlt⟩
    · rw [List.getElem?_append_right hge] at hi
      have h0 : i - l.length < 1 := by
        have := (List.getElem?_eq_some_iff.1 hi).1
        simpa using this
      have h1 : i = l.length := by omega
      subst h1
      simp at hi
      exact .inr ⟨hi.symm, rfl⟩
  have hz := k.size
  have h0 := h.keep.size
  refine ⟨fun i y hi => ?_, fun i j y z hi hj hij b hy hz' => ?_, fun i y hi b hb => ?_, h.keep.trans' k (fun _ _ h => h) (fun _ _ h => h.elim)⟩
  · rcases at_ i y hi with ⟨h1, _⟩ | ⟨rfl, _⟩
    · exact y.stable w w' _ (h.all i y h1) k (fun _ _ h => h)
    · exact hx
  · rcases at_ i y hi with ⟨h1, e1⟩ | ⟨rfl, e1⟩ <;> rcases at_ j z hj with ⟨h2, e2⟩ | ⟨rfl, e2⟩
    · exact h.dis i j y z h1 h2 hij b hy hz'
    · have := h.rng i y h1 b hy; have := hf b hz'; omega
    · have := h.rng j z h2 b hz'; have := hf b hy; omega
    · omega
  · rcases at_ i y hi with ⟨h1, _⟩ | ⟨rfl, _⟩
    · have := h.rng i y h1 b hb; exact ⟨this.1, by omega⟩
    · have := hf b hb; exact ⟨.inl (by omega), this.2⟩
theorem M.upd (h : M F w0 w l) (i : Nat) {x : It} (hi : l[i]? = some x) {S : Nat → Prop} (k : Keep S w w') (hS : ∀ k, S k → x.foot k) {y : It} (hy : y.holds w') (hf : ∀ k, y.foot k → x.foot k ∨ (w.heap.size ≤ k ∧ k < w'.heap.size)) : M F w0 w' (l.set i y) := by
  have hlt : i < l.length := (List.getElem?_eq_some_iff.1 hi).1
  have at_ : ∀ (j : Nat) (z : It), (l.set i y)[j]? = some z → (l[j]? = some z ∧ j ≠ i) ∨ (z = y ∧ j = i) := by
    intro j z hj
    by_cases e : j = i
    · subst e
      rw [List.getElem?_set_self hlt] at hj
      exact .inr ⟨by simpa using hj.symm, rfl⟩
    · rw [List.getElem?_set_ne (Ne.symm e)] at hj
      exact .inl ⟨hj, e⟩
  have hz := k.size
  have h0 := h.keep.size
  refine ⟨fun j z hj => ?_, fun j m z u hj hm hjm b hz' hu => ?_, fun j z hj b hb => ?_, h.keep.trans' k (fun _ _ h => h) (fun b hb e => ?_)⟩
  · rcases at_ j z hj with ⟨h1, e⟩ | ⟨rfl, _⟩
    · exact z.stable w w' S (h.all j z h1) k (fun b hb hs => h.dis j i z x h1 hi e b hb (hS b hs))
    · exact hy
  · rcases at_ j z hj with ⟨h1, e1⟩ | ⟨rfl, e1⟩ <;> rcases at_ m u hm with ⟨h2, e2⟩ | ⟨rfl, e2⟩
    · exact h.dis j m z u h1 h2 hjm b hz' hu
    · rcases hf b hu with e | e
      · exact h.dis j i z x h1 hi e1 b hz' e
      · have := h.rng j z h1 b hz'; omega
    · rcases hf b hz' with e | e
      · exact h.dis m i u x h2 hi e2 b hu e
      · have := h.rng m u h2 b hu; omega
    · omega
  · rcases at_ j z hj with ⟨h1, _⟩ | ⟨rfl, _⟩
    · have := h.rng j z h1 b hb; exact ⟨this.1, by omega⟩
    · rcases hf b hb with e | e
      · have := h.rng i x hi b e; exact ⟨this.1, by omega⟩
      · exact ⟨.inl (by omega), e.2⟩
  · rcases (h.rng i x hi b (hS b e)).1 with h1 | h1
    · omega
    · exact h1
theorem M.get (h : M F w0 w l) (i : Nat) {x : It} (hi : l[i]? = some x) : x.holds w := h.all i x hi
theorem M.turn (h : M F w0 w l) (i : Nat) {x : It} (hi : l[i]? = some x) (y : It) (hy : y.holds w) (hf : ∀ k, y.foot k → x.foot k) : M F w0 w (l.set i y) :=
  h.upd i hi (Keep.refl (fun _ => False) w) (fun _ h => h.elim) hy (fun k hk => .inl (hf k hk))
/-- Some of it, in another order. -/
theorem M.sub (h : M F w0 w l) (m : List It) (f : List Nat) (hf : f.Nodup) (hm : m.map some = f.map fun i => l[i]?) : M F w0 w m := by
  have at_ : ∀ (i : Nat) (x : It), m[i]? = some x → ∃ j, f[i]? = some j ∧ l[j]? = some x := by
    intro i x hi
    have h1 : (m.map some)[i]? = some (some x) := by rw [List.getElem?_map, hi]; rfl
    rw [hm, List.getElem?_map] at h1
    cases hj : f[i]? with
    | none => rw [hj] at h1; cases h1
    | some j => rw [hj] at h1; exact ⟨j, rfl, by simpa using h1⟩
  refine ⟨fun i x hi => ?_, fun i j x y hi hj hij k hx => ?_, fun i x hi k hk => ?_, h.keep⟩
  · obtain ⟨a, _, h2⟩ := at_ i x hi; exact h.all a x h2
  · obtain ⟨a, h1, h2⟩ := at_ i x hi
    obtain ⟨b, h3, h4⟩ := at_ j y hj
    refine h.dis a b x y h2 h4 (fun e => hij ?_) k hx
    subst e
    have hi' := (List.getElem?_eq_some_iff.1 h1).1
    have hj' := (List.getElem?_eq_some_iff.1 h3).1
    exact (List.getElem_inj hf).1 (by rw [(List.getElem?_eq_some_iff.1 h1).2, (List.getElem?_eq_some_iff.1 h3).2])
  · obtain ⟨a, _, h2⟩ := at_ i x hi; exact h.rng a x h2 k hk
theorem M.take (h : M F w0 w l) (n : Nat) : M F w0 w (l.take n) := by
  have at_ : ∀ (i : Nat) (x : It), (l.take n)[i]? = some x → l[i]? = some x := by
    intro i x hi
    rw [List.getElem?_take] at hi
    split at hi
    · exact hi
    · cases hi
  exact ⟨fun i x hi => h.all i x (at_ i x hi), fun i j x y hi hj => h.dis i j x y (at_ i x hi) (at_ j y hj), fun i x hi => h.rng i x (at_ i x hi), h.keep⟩
theorem M.alloc (h : M F w0 w l) (o : Obj) {b : Nat} (hb : w.heap.size = b) : M F w0 (w.alloc o) (l ++ [blk b o]) := by
  subst hb
  exact h.add (x := blk w.heap.size o) ((Keep.refl _ _).alloc o) (heap_alloc_new w o) (fun k (hk : k = w.heap.size) => by subst hk; simp)
theorem M.setc (h : M F w0 w l) (i : Nat) {b : Nat} {cs : Array Value} {t : TypeId} {fr : Nat × Nat} (hi : l[i]? = some (blk b (.cells cs t fr))) (j : Nat) (v : Value) : M F w0 (w.setCell ⟨b, j, none⟩ v) (l.set i (blk b (.cells (cs.setIfInBounds j v) t fr))) :=
  h.upd i hi (S := fun k => k = b) (Keep.setCell (Keep.refl _ _) ⟨b, j, none⟩ v (fun _ => rfl)) (fun _ h => h) (y := blk b _) (block_set (h.get i hi) v) (fun k hk => .inl hk)
theorem M.setr (h : M F w0 w l) (i : Nat) {b : Nat} {cs : Array Value} {t : TypeId} {fr : Nat × Nat} (hi : l[i]? = some (blk b (.cells cs t fr))) (cs' : Array Value) : M F w0 (w.setRow b cs') (l.set i (blk b (.cells cs' t fr))) :=
  h.upd i hi (S := fun k => k = b) ((Keep.refl _ _).setRow b cs' (fun _ => rfl)) (fun _ h => h) (y := blk b _) (setRow_heap w b cs cs' t fr (h.get i hi)) (fun k hk => .inl hk)
theorem M.cell (h : M F w0 w l) (i : Nat) {b : Nat} {cs : Array Value} {t : TypeId} {fr : Nat × Nat} (hi : l[i]? = some (blk b (.cells cs t fr))) (j : Nat) {v : Value} (hj : cs[j]? = some v) : w.cell? ⟨b, j, none⟩ = some v :=
  (cell_of (h.get i hi)).trans hj
theorem M.free (h : M F w0 w l) (i : Nat) {b : Nat} {cs : Array Value} {t : TypeId} (hi : l[i]? = some (blk b (.cells cs t (0, 0)))) (j : Nat) : w.frozen? ⟨b, j, none⟩ = false := free_of (h.get i hi)
theorem M.range (h : M F w0 w l) (i : Nat) {b : Nat} {cs : List Value} {t : TypeId} {fr : Nat × Nat} (hi : l[i]? = some (blk b (.cells cs.toArray t fr))) : w.rangeAt b 0 cs := fun j v hj => by
  rw [Nat.zero_add, cell_of (h.get i hi), List.getElem?_toArray]; exact hj
theorem M.lt (h : M F w0 w l) (i : Nat) {x : It} (hi : l[i]? = some x) {k : Nat} (hk : x.foot k) : k < w.heap.size := (h.rng i x hi k hk).2
theorem M.drew (h : M F w0 w l) : M F w0 w.drew l := h.calm (Keep.refl _ _).drew

theorem own_foot {v v' : Value} {S : Nat} (h3 : v'.ownBlock = v.ownBlock ∨ v'.ownBlock = some S) {n : Nat} (hn : ∀ k, v'.ownBlock = some k → k < n) : ∀ k, v'.ownBlock = some k → v.ownBlock = some k ∨ (S ≤ k ∧ k < n) := fun k hk => by
  rcases h3 with e | e
  · exact .inl (e ▸ hk)
  · have h1 := hn k hk
    rw [e] at hk
    have : S = k := by simpa using hk
    exact .inr ⟨by omega, h1⟩
theorem M.appB (h : M F w0 w l) (i : Nat) {v v' : Value} {bs bs' : List UInt8} (hi : l[i]? = some (byt v bs)) (h1 : Byt.Own w' v' bs') (k : Keep (fun k => v.ownBlock = some k) w w') (h3 : v'.ownBlock = v.ownBlock ∨ v'.ownBlock = some w.heap.size) : M F w0 w' (l.set i (byt v' bs')) :=
  h.upd i hi k (fun _ h => h) (y := byt v' bs') h1 (own_foot h3 fun k hk => h1.lt hk)
theorem M.appI (h : M F w0 w l) (i : Nat) {v v' : Value} {els els' : List (List UInt8)} (hi : l[i]? = some (ids v els)) (h1 : Ids.Own w' v' els') (k : Keep (fun k => v.ownBlock = some k) w w') (h3 : v'.ownBlock = v.ownBlock ∨ v'.ownBlock = some w.heap.size) : M F w0 w' (l.set i (ids v' els')) :=
  h.upd i hi k (fun _ h => h) (y := ids v' els') h1 (own_foot h3 fun k hk => h1.lt hk)
theorem M.nilB (h : M F w0 w l) : M F w0 w (l ++ [byt (.slice none 0 0) []]) := h.add (x := byt (.slice none 0 0) []) (Keep.refl _ _) (Byt.Own.nil w) (fun k hk => by simp [byt, Value.ownBlock] at hk)
theorem M.nilI (h : M F w0 w l) : M F w0 w (l ++ [ids (.slice none 0 0) []]) := h.add (x := ids (.slice none 0 0) []) (Keep.refl _ _) (Ids.Own.nil w) (fun k hk => by simp [ids, Value.ownBlock] at hk)
/-! The reader. -/
/-! The document's reader. -/
/-! The writer. -/
theorem M.new (h : M F w0 w l) {b : Nat} (hb : w.heap.size = b) : Calls Tryd.prog 38 #[] w fun e w' => e = .returned (.pointer (some ⟨b, 0, none⟩)) ∧ M F w0 w' (l ++ [wr b [] (.slice none 0 0)]) := by
  subst hb
  refine (new_any w).mono ?_
  rintro e w' ⟨rfl, h1, k1⟩
  refine ⟨rfl, h.add (x := wr w.heap.size [] (.slice none 0 0)) k1 h1 (fun k hk => ?_)⟩
  have := lt_of_block h1.blk
  rcases hk with hk | hk
  · omega
  · simp [Value.ownBlock] at hk
theorem M.wrote (h : M F w0 w l) (i : Nat) {b : Nat} {bs bs' : List UInt8} {sv sv' : Value} (hi : l[i]? = some (wr b bs sv)) (hw : IsW w' b bs' 0 sv') (k : After w w' b sv sv') : M F w0 w' (l.set i (wr b bs' sv')) := by
  refine h.upd i hi k.1 (fun _ h => h) (y := wr b bs' sv') hw (fun x hx => ?_)
  rcases hx with hx | hx
  · exact .inl (.inl hx)
  · rcases k.2 x hx with e | e
    · exact .inl (.inr e)
    · exact .inr ⟨e, (hw.own.lt x hx).2⟩
theorem M.wnum (h : M F w0 w l) (i : Nat) {b : Nat} {bs : List UInt8} {sv : Value} (hi : l[i]? = some (wr b bs sv)) (n : Int) (k : Nat) (hk : k = 1 ∨ k = 2 ∨ k = 4) (hn : 0 ≤ n) (hn' : n < 256 ^ k) (hl : bs.length ≤ 1000000000) :
    Calls Tryd.prog 39 #[.pointer (some ⟨b, 0, none⟩), .int .i64 n, .int .i64 k] w fun e w' => e = .returned (.pointer (some ⟨b, 0, none⟩)) ∧ ∃ sv', M F w0 w' (l.set i (wr b (bs ++ be k n) sv')) := by
  rcases hk with rfl | rfl | rfl
  · refine (num_ok1 w b bs n sv (h.get i hi) hn hn' (by omega)).mono ?_
    rintro e w' ⟨rfl, sv', h1, k1⟩
    exact ⟨rfl, sv', h.wrote i hi h1 k1⟩
  · refine (num_ok2 w b bs n sv (h.get i hi) hn hn' (by omega)).mono ?_
    rintro e w' ⟨rfl, sv', h1, k1⟩
    exact ⟨rfl, sv', h.wrote i hi h1 k1⟩
  · refine (num_ok4 w b bs n sv (h.get i hi) hn hn' (by omega)).mono ?_
    rintro e w' ⟨rfl, sv', h1, k1⟩
    exact ⟨rfl, sv', h.wrote i hi h1 k1⟩
theorem M.wraw (h : M F w0 w l) (i : Nat) {b : Nat} {bs : List UInt8} {sv : Value} (hi : l[i]? = some (wr b bs sv)) (s : ByteArray) (hl : bs.length + s.size ≤ 1000000000) :
    Calls Tryd.prog 40 #[.pointer (some ⟨b, 0, none⟩), .string s] w fun e w' => e = .returned (.pointer (some ⟨b, 0, none⟩)) ∧ ∃ sv', M F w0 w' (l.set i (wr b (bs ++ s.data.toList) sv')) := by
  refine (OctW.wraw_ok w b bs s sv (h.get i hi) (by omega)).mono ?_
  rintro e w' ⟨rfl, sv', h1, k1⟩
  exact ⟨rfl, sv', h.wrote i hi h1 k1⟩
theorem M.wdone (h : M F w0 w l) (i : Nat) {b : Nat} {bs : List UInt8} {sv : Value} (hi : l[i]? = some (wr b bs sv)) :
    Calls Tryd.prog 41 #[.pointer (some ⟨b, 0, none⟩)] w fun e w' => e = .returned (.tuple #[.string ⟨bs.toArray⟩, .int .i64 0]) ∧ M F w0 w' l := by
  refine (OctW.done_ok w b bs sv (h.get i hi)).mono ?_
  rintro e w' ⟨rfl, k1⟩
  exact ⟨rfl, h.calm k1⟩
end
end Mem
end Go.Proofs.YthllhjdaknmlbaaDoor


namespace Go.Proofs.YthllhjdaknmlbaaDoor
open Go.RowKit
namespace St
open Oct

/-- A struct type: how many cells, which are zero's. -/
structure Ty (T : TypeId) (n : Nat) (Z : Array Value) : Prop where
  und : ∃ d, Tryd.prog.underlying T = some d ∧ (match d with | .struct _ | .array _ _ => true | _ => false) = true
  info : (Tryd.prog.info? T).map (fun i => (i.zero, i.size)) = some (some (.agg Z), n)
  size : Z.size = n
section
variable {T : TypeId} {n : Nat} {Z : Array Value}
theorem Ty.sz (h : Ty T n Z) : (Tryd.prog.info? T).map (·.size) = some n := by
  have := h.info
  cases hq : Tryd.prog.info? T with
  | none => rw [hq] at this; cases this
  | some i =>
    rw [hq] at this
    simp only [Option.map_some, Option.some.injEq, Prod.mk.injEq] at this
    simp [this.2]
theorem Ty.zero (h : Ty T n Z) (w : World) : (zeroValue T).run Tryd.prog w = .ok (.agg Z) w := (zero_of_info h.info).1 w
variable {ops : Array Oper} {rest : List Oper} {o : Oper} {a : Act} {w : World} {K : Act → World → Prop} {Q : Exit → Act → World → Prop}
theorem wp_alloc (hT : Ty T n Z) (ho : o.op = .alloc T) (h : K (a.put o.dst (.pointer (some ⟨w.heap.size, 0, none⟩))) (w.alloc (.cells Z T))) : o.wp Tryd.prog a w K Q := by
  unfold Oper.wp execOp
  simp only [ho, Instr.alloc, Sem.run_bind, hT.zero, Result.andThen_ok]
  simp [go_sem, newVar, Value.cells]
  exact h
theorem wl_alloc (hT : Ty T n Z) (hgd : o.guard = none) (ho : o.op = .alloc T) {b : Nat} (hb : w.heap.size = b) (h : wpList Tryd.prog ops Q rest (a.put o.dst (.pointer (some ⟨b, 0, none⟩))) (w.alloc (.cells Z T))) : wpList Tryd.prog ops Q (o :: rest) a w :=
  wpList_plain hgd fun _ hK => wp_alloc hT ho (hK _ _ (by subst hb; exact h))
/-- A struct made of its parts. -/
theorem wl_buildV {parts : Array (Nat × Operand)} (hgd : o.guard = none) (ho : o.op = .build T parts) {cs : Array Value} (hb : Tryd.prog.built T (parts.map fun (i, x) => (i, a.eval x)).toList = some cs) (h : wpList Tryd.prog ops Q rest (a.put o.dst (.agg cs)) w) : wpList Tryd.prog ops Q (o :: rest) a w :=
  wpList_build hgd T parts ho (by rw [hb]; rfl) (by rw [hb]; exact h)
/-- A store into the block that was made last. -/
theorem wp_storeN (hT : Ty T n Z) {x y : Operand} (ho : o.op = .store T x y) (hd : o.dst = none) {W : World} {old cs : Array Value} (hw : w = W.alloc (.cells old T)) {b : Nat} (hx : a.eval x = .pointer (some ⟨b, 0, none⟩)) (hb : W.heap.size = b) (hy : a.eval y = .agg cs)
    (hcs : cs.size = n) (hol : old.size = n) (hall : cs.all (·.oneCell') = true) (h : K a (W.alloc (.cells cs T))) : o.wp Tryd.prog a w K Q := by
  subst hw hb
  unfold Oper.wp execOp
  simp only [ho, hx, hy, Sem.run_bind]
  rw [run_storeAt_new W T old cs (by rw [hT.sz, hcs]) (by rw [hol, hcs]) hall]
  rw [Result.andThen_ok, Sem.run_pure, Oper.upon_skip, hd]
  exact h
theorem wl_storeN (hT : Ty T n Z) (hgd : o.guard = none) {x y : Operand} (ho : o.op = .store T x y) (hd : o.dst = none) {W : World} {old cs : Array Value} (hw : w = W.alloc (.cells old T)) {b : Nat} (hx : a.eval x = .pointer (some ⟨b, 0, none⟩)) (hb : W.heap.size = b) (hy : a.eval y = .agg cs)
    (hcs : cs.size = n) (hol : old.size = n) (hall : cs.all (·.oneCell') = true) (h : wpList Tryd.prog ops Q rest a (W.alloc (.cells cs T))) : wpList Tryd.prog ops Q (o :: rest) a w :=
  wpList_plain hgd fun _ hK => wp_storeN hT ho hd hw hx hb hy hcs hol hall (hK _ _ h)
/-- A store into a block that is known whole. -/
theorem wp_store (hT : Ty T n Z) {x y : Operand} (ho : o.op = .store T x y) (hd : o.dst = none) {g : Nat} {old cs : Array Value} (hx : a.eval x = .pointer (some ⟨g, 0, none⟩)) (hy : a.eval y = .agg cs)
    (hcs : cs.size = n) (hall : cs.all (·.oneCell') = true) (hg : w.heap[g]? = some (.cells old T (0, 0))) (hol : old.size = n) (h : K a (w.setRow g cs)) : o.wp Tryd.prog a w K Q := by
  have hr := run_storeVar_row (P := Tryd.prog) w g T T old cs hg (by rw [hT.sz, hcs]) (by rw [hol, hcs]) hall
  unfold Oper.wp execOp
  simp only [ho, hx, hy, Instr.storeAt, Instr.sureAddr, Sem.run_bind, Sem.run_pure, Result.andThen_ok, hr]
  rw [Oper.upon_skip, hd]
  exact h
theorem wl_store (hT : Ty T n Z) (hgd : o.guard = none) {x y : Operand} (ho : o.op = .store T x y) (hd : o.dst = none) {g : Nat} {old cs : Array Value} (hx : a.eval x = .pointer (some ⟨g, 0, none⟩)) (hy : a.eval y = .agg cs)
    (hcs : cs.size = n) (hall : cs.all (·.oneCell') = true) (hg : w.heap[g]? = some (.cells old T (0, 0))) (hol : old.size = n) (h : wpList Tryd.prog ops Q rest a (w.setRow g cs)) : wpList Tryd.prog ops Q (o :: rest) a w :=
  wpList_plain hgd fun _ hK => wp_store hT ho hd hx hy hcs hall hg hol (hK _ _ h)
/-- A store into the middle of a block. -/
theorem wp_storeMid (hT : Ty T n Z) {x y : Operand} (ho : o.op = .store T x y) (hd : o.dst = none) {g i : Nat} {t : TypeId} {old cs new : Array Value} (hx : a.eval x = .pointer (some ⟨g, i, none⟩)) (hy : a.eval y = .agg cs)
    (hcs : cs.size = n) (hall : cs.all (·.oneCell') = true) (hg : w.heap[g]? = some (.cells old t (0, 0))) (hol : i + n ≤ old.size) (hn : (old.toList.take i ++ cs.toList ++ old.toList.drop (i + n)).toArray = new) (h : K a (w.setRow g new)) : o.wp Tryd.prog a w K Q := by
  have hst := run_storeCells_at Tryd.prog g i t cs.toList 0 old w hg (by simp [hcs]; exact hol) (fun v hv => (Array.all_eq_true_iff_forall_mem.1 hall) v (by simpa using hv))
  have hl : cs.toList.length = n := by simpa using hcs
  simp only [Nat.add_zero, hl] at hst
  rw [hn] at hst
  have hr : (storeVar T ⟨g, i, none⟩ (.agg cs)).run Tryd.prog w = .ok () (w.setRow g new) := by
    have hsz := hT.sz
    cases hq : Tryd.prog.info? T with
    | none => simp [hq] at hsz
    | some q =>
      have hs : cs.size = q.size := by simp [hq] at hsz; omega
      simp [storeVar, sizeOf, typeInfo, hq, Value.cells, hs, hst]
  unfold Oper.wp execOp
  simp only [ho, hx, hy, Instr.storeAt, Instr.sureAddr, Sem.run_bind, Sem.run_pure, Result.andThen_ok, hr]
  rw [Oper.upon_skip, hd]
  exact h
theorem wl_storeMid (hT : Ty T n Z) (hgd : o.guard = none) {x y : Operand} (ho : o.op = .store T x y) (hd : o.dst = none) {g i : Nat} {t : TypeId} {old cs new : Array Value} (hx : a.eval x = .pointer (some ⟨g, i, none⟩)) (hy : a.eval y = .agg cs)
    (hcs : cs.size = n) (hall : cs.all (·.oneCell') = true) (hg : w.heap[g]? = some (.cells old t (0, 0))) (hol : i + n ≤ old.size) (hn : (old.toList.take i ++ cs.toList ++ old.toList.drop (i + n)).toArray = new) (h : wpList Tryd.prog ops Q rest a (w.setRow g new)) : wpList Tryd.prog ops Q (o :: rest) a w :=
  wpList_plain hgd fun _ hK => wp_storeMid hT ho hd hx hy hcs hall hg hol hn (hK _ _ h)
/-- A load, guarded or not. -/
theorem wl_load (hT : Ty T n Z) (hw : Region.wanted o (yielded ops a.tmps) = true) {x : Operand} (ho : o.op = .load T x) {b i : Nat} (hx : a.eval x = .pointer (some ⟨b, i, none⟩)) {cs : List Value} (hr : w.rangeAt b i cs) (hcs : cs.length = n)
    (h : wpList Tryd.prog ops Q rest (a.put o.dst (.agg cs.toArray)) w) : wpList Tryd.prog ops Q (o :: rest) a w :=
  wpList_step fun K hK => by
    rw [if_pos hw]
    obtain ⟨d, hu, hd⟩ := hT.und
    exact wp_load_mid _ x ho b i hx cs _ hr hu (by cases d <;> simp_all) (by rw [hT.sz, hcs]) (hK _ _ h)
/-- What a function answers whose result is a struct, in a variable of its own. -/
theorem res1 (hT : Ty T n Z) {fn : Func} {p : Tmp} (h : fn.results = #[.cell p T]) (tmps : Array Value) (w : World) (g : Nat) (cs : Array Value) (hc : cs.size = n) (hp : tmps.getD p undef = .pointer (some ⟨g, 0, none⟩)) {fr : Nat × Nat} (hg : w.heap[g]? = some (.cells cs T fr)) :
    (results fn tmps).run Tryd.prog w = .ok (.agg cs) w := by
  obtain ⟨d, hu, hd⟩ := hT.und
  exact results_cell_row h tmps w g _ _ fr d hp hg hu (by cases d <;> simp_all) (by rw [hT.sz, hc])
/-- .. whose first result is a struct, in a variable of its own. -/
theorem res2 (hT : Ty T n Z) {fn : Func} {p q : Tmp} (h : fn.results = #[.cell p T, .tmp q]) (tmps : Array Value) (w : World) (g : Nat) (cs : Array Value) (hc : cs.size = n) (hp : tmps.getD p undef = .pointer (some ⟨g, 0, none⟩)) {fr : Nat × Nat} (hg : w.heap[g]? = some (.cells cs T fr)) (e : Value) (hq : tmps.getD q undef = e) :
    (results fn tmps).run Tryd.prog w = .ok (.tuple #[.agg cs, e]) w := by
  have hp' : tmps[p]?.getD undef = .pointer (some ⟨g, 0, none⟩) := by simpa using hp
  have hq' : tmps[q]?.getD undef = e := by simpa using hq
  obtain ⟨d, hu, hd⟩ := hT.und
  simp [results, h, hp', hq', asAddr, run_loadVar_row w g _ _ cs fr _ hg hu (by cases d <;> simp_all) (by rw [hT.sz, hc])]
end
end St
end Go.Proofs.YthllhjdaknmlbaaDoor


namespace Go.Proofs.YthllhjdaknmlbaaDoor
open Go.RowKit
namespace St
open Oct

/-- A row of structs, in memory. -/
structure At {α : Type} (n : Nat) (enc : α → List Value) (w : World) (a : Option Addr) (k : Nat) (els : List α) : Prop where
  len : els.length = k
  most : k ≤ maxLen
  lay : k = 0 ∨ ∃ b off, a = some ⟨b, off, none⟩ ∧ b < w.heap.size ∧ ∀ i x, els[i]? = some x → w.rangeAt b (off + i * n) (enc x)
/-- A row of structs of one's own. -/
structure Own {α : Type} (T : TypeId) (n : Nat) (enc : α → List Value) (w : World) (v : Value) (els : List α) : Prop where
  own : w.ownsRow 0 T n v els.length (els.flatMap enc)
  size : ∀ x ∈ els, (enc x).length = n
section
variable {α : Type} {T t : TypeId} {n bytes : Nat} {enc : α → List Value} {w w' : World} {v : Value} {els : List α}
theorem At.keep {a : Option Addr} {k : Nat} (h : At n enc w a k els) {S : Nat → Prop} (hk : Keep S w w') (hn : ∀ b off, a = some ⟨b, off, none⟩ → ¬ S b) : At n enc w' a k els := by
  refine ⟨h.len, h.most, h.lay.imp id ?_⟩
  rintro ⟨b, off, ha, hb, hr⟩
  exact ⟨b, off, ha, Nat.lt_of_lt_of_le hb hk.size, fun i x hi => hk.range hb (hn b off ha) (hr i x hi)⟩
theorem At.calm {a : Option Addr} {k : Nat} (h : At n enc w a k els) (hk : Keep (fun _ => False) w w') : At n enc w' a k els := h.keep hk (fun _ _ _ h => h)
theorem Own.nil (T : TypeId) (n : Nat) (enc : α → List Value) (w : World) : Own T n enc w (.slice none 0 0) [] := ⟨⟨by simp, .inl ⟨rfl, rfl⟩⟩, by simp⟩
theorem Own.keep (h : Own T n enc w v els) {S : Nat → Prop} (hk : Keep S w w') (hn : ∀ k, v.ownBlock = some k → ¬ S k) : Own T n enc w' v els := ⟨hk.row h.own hn, h.size⟩
theorem Own.lt (h : Own T n enc w v els) {k : Nat} (hk : v.ownBlock = some k) : k < w.heap.size := (h.own.lt _ hk).2
theorem flat_at (enc : α → List Value) : ∀ (l : List α), (∀ x ∈ l, (enc x).length = n) → ∀ (i : Nat) (x : α), l[i]? = some x → ∀ j, j < n → (l.flatMap enc)[i * n + j]? = (enc x)[j]?
  | [], _, i, x, h, _, _ => by simp at h
  | y :: l, hs, 0, x, h, j, hj => by
    simp only [List.getElem?_cons_zero, Option.some.injEq] at h
    subst h
    rw [List.flatMap_cons, Nat.zero_mul, Nat.zero_add, List.getElem?_append_left (by rw [hs y (by simp)]; exact hj)]
  | y :: l, hs, i + 1, x, h, j, hj => by
    have hy := hs y (by simp)
    rw [List.flatMap_cons, List.getElem?_append_right (by rw [hy, Nat.succ_mul]; omega), hy, show (i + 1) * n + j - n = i * n + j from by rw [Nat.succ_mul]; omega]
    exact flat_at enc l (fun z hz => hs z (by simp [hz])) i x (by simpa using h) j hj
theorem Own.at (h : Own T n enc w v els) : ∃ a c, v = .slice a els.length c ∧ At n enc w a els.length els ∧ (∀ b off, a = some ⟨b, off, none⟩ → v.ownBlock = some b) := by
  obtain ⟨hl, h1 | ⟨g, cap, cur, rfl, _, hg, hn, hc, hsz, htk⟩⟩ := h.own
  · obtain ⟨rfl, h0⟩ := h1
    obtain rfl : els = [] := List.eq_nil_of_length_eq_zero h0
    exact ⟨none, 0, rfl, ⟨rfl, Nat.zero_le _, .inl rfl⟩, by simp⟩
  · refine ⟨_, cap, rfl, ⟨rfl, by omega, .inr ⟨g, 0, rfl, lt_of_block hg, fun i x hi j v hj => ?_⟩⟩, fun b off e => by simp at e; simp [Value.ownBlock, e.1]⟩
    have hj' : j < n := by
      have := (List.getElem?_eq_some_iff.1 hj).1
      rw [h.size x (List.mem_of_getElem? hi)] at this
      exact this
    have hi' : i < els.length := (List.getElem?_eq_some_iff.1 hi).1
    rw [cell_of hg, Nat.zero_add, ← Array.getElem?_toList]
    have hb : i * n + j < els.length * n := by
      have := Nat.mul_le_mul_right n (show i + 1 ≤ els.length from hi')
      rw [Nat.succ_mul] at this
      omega
    have e1 : (cur.toList.take (els.length * n))[i * n + j]? = cur.toList[i * n + j]? := by rw [List.getElem?_take, if_pos hb]
    rw [← e1, htk, flat_at enc els h.size i x hi j hj']
    exact hj
theorem Own.slice {a : Option Addr} {k c : Nat} (h : Own T n enc w (.slice a k c) els) : k = els.length ∧ At n enc w a els.length els := by
  obtain ⟨a', c', e, h1, _⟩ := h.at
  simp only [Value.slice.injEq] at e
  obtain ⟨rfl, rfl, rfl⟩ := e
  exact ⟨rfl, h1⟩
variable {ops : Array Oper} {rest : List Oper} {o : Oper} {a : Act} {K : Act → World → Prop} {Q : Exit → Act → World → Prop} {Z : Array Value}
/-- '[]T{x}'. -/
theorem run_build (hsl : SlT Tryd.prog t T (.agg Z) n bytes) (hnn : n ≤ 10000) (w : World) (cs : List Value) (hl : cs.length = n) : (Instr.buildSlice t 1 #[(0, .agg cs.toArray)]).run Tryd.prog w = .ok (.slice (some ⟨w.heap.size, 0, none⟩) 1 1) (w.alloc (.cells cs.toArray T)) := by
  obtain ⟨i, hi, hz, hs, _⟩ := hsl.info
  have hpos := hsl.pos
  have hf := Great.fill_whole (s := n) hpos [.agg cs.toArray] ((Array.range (1 * i.size)).map ((Value.agg Z).cells[· % (Value.agg Z).cells.size]!)) (by intro v hv; simp only [List.mem_singleton] at hv; subst hv; show cs.toArray.size = n; simp [hl]) (by simp [hs])
  have e : ([Value.agg cs.toArray].flatMap fun v => v.cells.toList).toArray = cs.toArray := by simp [Value.cells]
  rw [e] at hf
  refine run_buildSlice (P := Tryd.prog) w _ T 1 _ _ i (.agg Z) hsl.und hi hz (by rw [hs]; omega) (by rw [hs]; omega) ?_
  rw [hs] at hf ⊢
  exact hf
theorem wp_build (hsl : SlT Tryd.prog t T (.agg Z) n bytes) (hnn : n ≤ 10000) {x : Operand} (ho : o.op = .buildSlice t 1 #[(0, x)]) {cs : List Value} (hl : cs.length = n) (hx : a.eval x = .agg cs.toArray)
    (h : K (a.put o.dst (.slice (some ⟨w.heap.size, 0, none⟩) 1 1)) (w.alloc (.cells cs.toArray T))) : o.wp Tryd.prog a w K Q := by
  unfold Oper.wp execOp
  simp only [ho, Sem.run_bind, List.map_toArray, List.map_cons, List.map_nil, hx, run_build hsl hnn w cs hl, Result.andThen_ok]
  exact h
theorem wl_build (hsl : SlT Tryd.prog t T (.agg Z) n bytes) (hnn : n ≤ 10000) (hgd : o.guard = none) {x : Operand} (ho : o.op = .buildSlice t 1 #[(0, x)]) {cs : List Value} (hl : cs.length = n) (hx : a.eval x = .agg cs.toArray)
    (h : wpList Tryd.prog ops Q rest (a.put o.dst (.slice (some ⟨w.heap.size, 0, none⟩) 1 1)) (w.alloc (.cells cs.toArray T))) : wpList Tryd.prog ops Q (o :: rest) a w :=
  wpList_plain hgd fun _ hK => wp_build hsl hnn ho hl hx (hK _ _ h)
/-- 'append(out, x)'. -/
theorem wp_app1 (hsl : SlT Tryd.prog t T (.agg Z) n bytes) (hby : bytes ≤ 100000) {s x : Operand} (ho : o.op = .call { callee := .builtin .append, args := #[s, x], argTypes := #[t, t] }) {v : Value} {els : List α} (hs : a.eval s = v) (hown : Own T n enc w v els)
    {g : Nat} (hx : a.eval x = .slice (some ⟨g, 0, none⟩) 1 1) {y : α} (hl : (enc y).length = n) (h1 : (enc y).toArray.all (·.oneCell') = true) {fr : Nat × Nat} (hg : w.heap[g]? = some (.cells (enc y).toArray T fr)) (hm : els.length ≤ 1000000)
    (h : ∀ v' w', Own T n enc w' v' (els ++ [y]) → Keep (fun k => v.ownBlock = some k) w w' → (v'.ownBlock = v.ownBlock ∨ v'.ownBlock = some w.heap.size) → K (a.put o.dst v') w') : o.wp Tryd.prog a w K Q := by
  have hbb : (els.length + 1) * bytes ≤ 140737488355328 := Nat.le_trans (Nat.mul_le_mul (show els.length + 1 ≤ 1000001 by omega) hby) (by decide)
  refine wp_app hsl ho (xs := els.flatMap enc) (v := v) (n := els.length) hs hown.own (enc y) hx (by simp [hl]) (World.news_of_block hg) (fun u hu => (Array.all_eq_true_iff_forall_mem.1 h1) u (by simpa using hu)) (by unfold maxLen; omega) hbb ?_
  intro v' w' hA
  refine h v' w' ⟨?_, ?_⟩ hA.keep hA.at_
  · have e := hA.own
    simpa using e
  · intro z hz
    rcases List.mem_append.1 hz with hz | hz
    · exact hown.size z hz
    · rw [List.mem_singleton.1 hz]; exact hl
theorem wl_app1 (hsl : SlT Tryd.prog t T (.agg Z) n bytes) (hby : bytes ≤ 100000) (hgd : o.guard = none) {s x : Operand} (ho : o.op = .call { callee := .builtin .append, args := #[s, x], argTypes := #[t, t] }) {v : Value} {els : List α} (hs : a.eval s = v) (hown : Own T n enc w v els)
    {g : Nat} (hx : a.eval x = .slice (some ⟨g, 0, none⟩) 1 1) {y : α} (hl : (enc y).length = n) (h1 : (enc y).toArray.all (·.oneCell') = true) {fr : Nat × Nat} (hg : w.heap[g]? = some (.cells (enc y).toArray T fr)) (hm : els.length ≤ 1000000)
    (h : ∀ v' w', Own T n enc w' v' (els ++ [y]) → Keep (fun k => v.ownBlock = some k) w w' → (v'.ownBlock = v.ownBlock ∨ v'.ownBlock = some w.heap.size) → wpList Tryd.prog ops Q rest (a.put o.dst v') w') : wpList Tryd.prog ops Q (o :: rest) a w :=
  wpList_plain hgd fun _ hK => wp_app1 hsl hby ho hs hown hx hl h1 hg hm fun v' w' h1 h2 h3 => hK _ _ (h v' w' h1 h2 h3)
theorem results_tmp3 {fn : Func} {p q r : Tmp} (h : fn.results = #[.tmp p, .tmp q, .tmp r]) (tmps : Array Value) (w : World) (x y z : Value) (hp : tmps.getD p undef = x) (hq : tmps.getD q undef = y) (hr : tmps.getD r undef = z) : (results fn tmps).run Tryd.prog w = .ok (.tuple #[x, y, z]) w := by
  have hp' : tmps[p]?.getD undef = x := by simpa using hp
  have hq' : tmps[q]?.getD undef = y := by simpa using hq
  have hr' : tmps[r]?.getD undef = z := by simpa using hr
  simp [results, h, hp', hq', hr']
end
end St
namespace Mem
/-- Structs of one's own. -/
def rows {α : Type} (T : TypeId) (n : Nat) (enc : α → List Value) (v : Value) (els : List α) : It := ⟨fun k => v.ownBlock = some k, fun w => St.Own T n enc w v els, fun _ _ _ h k n => h.keep k n⟩
section
variable {α : Type} {T : TypeId} {n : Nat} {enc : α → List Value} {F : Nat → Prop} {w0 w w' : World} {l : List It}
theorem M.appR (h : M F w0 w l) (i : Nat) {v v' : Value} {els els' : List α} (hi : l[i]? = some (rows T n enc v els)) (h1 : St.Own T n enc w' v' els') (k : Keep (fun k => v.ownBlock = some k) w w') (h3 : v'.ownBlock = v.ownBlock ∨ v'.ownBlock = some w.heap.size) : M F w0 w' (l.set i (rows T n enc v' els')) :=
  h.upd i hi k (fun _ h => h) (y := rows T n enc v' els') h1 (own_foot h3 fun k hk => h1.lt hk)
theorem M.nilR (h : M F w0 w l) (T : TypeId) (n : Nat) (enc : α → List Value) : M F w0 w (l ++ [rows T n enc (.slice none 0 0) []]) := h.add (x := rows T n enc (.slice none 0 0) []) (Keep.refl _ _) (St.Own.nil T n enc w) (fun k hk => by simp [rows, Value.ownBlock] at hk)
end
end Mem
end Go.Proofs.YthllhjdaknmlbaaDoor
