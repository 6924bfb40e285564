/-
  What a function holds in memory, as one list of things that lie apart from one another, each in memory made since the function began.
-/
import Derived.Test.YtmnmemeldjbifaaRefA
import Derived.Test.YtmnmemeldjbifaaWr
import Derived.Test.YtmnmemeldjbifaaByt
set_option linter.unusedVariables false
set_option linter.unusedSimpArgs false
namespace Go.Proofs.Ytmnmemeldjbifaa
open Go.RowKit
namespace Mem
open Oct

/-- A thing in memory: the blocks in which it lies, what is so of it; it stays so while these blocks stay. -/
structure It where
  foot : Nat → Prop
  holds : World → Prop
  stable : ∀ (w w' : World) (S : Nat → Prop), holds w → Keep S w w' → (∀ k, foot k → ¬ S k) → holds w'
/-- A block, known whole. -/
def blk (b : Nat) (o : Obj) : It := ⟨fun k => k = b, fun w => w.heap[b]? = some o, fun _ _ _ h k n => k.get h (n b rfl)⟩
/-- A row of one's own. -/
def row (e : TypeId) (size : Nat) (v : Value) (n : Nat) (xs : List Value) : It := ⟨fun k => v.ownBlock = some k, fun w => w.ownsRow 0 e size v n xs, fun _ _ _ h k n => k.row h n⟩
/-- A reader. -/
def rd (b : Nat) (s : ByteArray) (a : Nat) (bad : Int) : It := ⟨fun k => k = b, fun w => IsR w b s a bad, fun _ _ _ h k n => h.keep k (n b rfl)⟩
/-- A reader of the document's. -/
def xr (b : Nat) (s : ByteArray) (a : Nat) (bad : Int) : It := ⟨fun k => k = b, fun w => Ref.IsXa w b s a bad, fun _ _ _ h k n => h.keep k (n b rfl)⟩
/-- A writer. -/
def wr (b : Nat) (bs : List UInt8) (sv : Value) : It := ⟨fun k => k = b ∨ sv.ownBlock = some k, fun w => IsW w b bs 0 sv, fun _ _ _ h k n => h.keep k (n b (.inl rfl)) (fun k hk => n k (.inr hk))⟩
/-- Ids of one's own. -/
def ids (v : Value) (els : List (List UInt8)) : It := ⟨fun k => v.ownBlock = some k, fun w => Ids.Own w v els, fun _ _ _ h k n => h.keep k n⟩
/-- Bytes of one's own. -/
def byt (v : Value) (bs : List UInt8) : It := ⟨fun k => v.ownBlock = some k, fun w => Byt.Own w v bs, fun _ _ _ h k n => h.keep k n⟩
/-- Something that is so whatever happens. -/
def pure (p : Prop) : It := ⟨fun _ => False, fun _ => p, fun _ _ _ h _ _ => h⟩

/-- All that is held. -/
structure M (F : Nat → Prop) (w0 w : World) (l : List It) : Prop where
  all : ∀ (i : Nat) (x : It), l[i]? = some x → x.holds w
  dis : ∀ (i j : Nat) (x y : It), l[i]? = some x → l[j]? = some y → i ≠ j → ∀ k, x.foot k → ¬ y.foot k
  rng : ∀ (i : Nat) (x : It), l[i]? = some x → ∀ k, x.foot k → (w0.heap.size ≤ k ∨ F k) ∧ k < w.heap.size
  keep : Keep F w0 w
section
variable {F : Nat → Prop} {w0 w w' : World} {l : List It}
theorem M.start (F : Nat → Prop) (w : World) : M F w w [] := ⟨by simp, by simp, by simp, Keep.refl _ _⟩
theorem M.start1 {x : It} (hx : x.holds w) (hl : ∀ k, x.foot k → k < w.heap.size) : M x.foot w w [x] := by
  have at_ : ∀ (i : Nat) (y : It), [x][i]? = some y → y = x ∧ i = 0 := by
    intro i y hi
    cases i with
    | zero => simp at hi; exact ⟨hi.symm, rfl⟩
    | succ i => simp at hi
  refine ⟨fun i y hi => ?_, fun i j y z hi hj hij => ?_, fun i y hi k hk => ?_, Keep.refl _ _⟩
  · obtain ⟨rfl, _⟩ := at_ i y hi; exact hx
  · have h1 := (at_ i y hi).2; have h2 := (at_ j z hj).2; omega
  · obtain ⟨rfl, _⟩ := at_ i y hi; exact ⟨.inr hk, hl k hk⟩
theorem M.calm (h : M F w0 w l) (k : Keep (fun _ => False) w w') : M F w0 w' l :=
  ⟨fun i x hi => x.stable w w' _ (h.all i x hi) k (fun _ _ h => h), h.dis, fun i x hi b hb => ⟨(h.rng i x hi b hb).1, Nat.lt_of_lt_of_le (h.rng i x hi b hb).2 k.size⟩, h.keep.trans' k (fun _ _ h => h) (fun _ _ h => h.elim)⟩
theorem M.add (h : M F w0 w l) {x : It} (k : Keep (fun _ => False) w w') (hx : x.holds w') (hf : ∀ k, x.foot k → w.heap.size ≤ k ∧ k < w'.heap.size) : M F w0 w' (l ++ [x]) := by
  have at_ : ∀ (i : Nat) (y : It), (l ++ [x])[i]? = some y → (l[i]? = some y ∧ i < l.length) ∨ (y = x ∧ i = l.length) := by
    intro i y hi
    rcases Nat.lt_or_ge i l.length with hlt | hge
    · rw [List.getElem?_append_left hlt] at hi; exact .inl ⟨hi, hlt⟩
    · rw [List.getElem?_append_right hge] at hi
      have h0 : i - l.length < 1 := by
        have := (List.getElem?_eq_some_iff.1 hi).1
        simpa using this
      have h1 : i = l.length := by omega
      subst h1
      simp at hi
      exact .inr ⟨hi.symm, rfl⟩
  have hz := k.size
  have h0 := h.keep.size
  refine ⟨fun i y hi => ?_, fun i j y z hi hj hij b hy hz' => ?_, fun i y hi b hb => ?_, h.keep.trans' k (fun _ _ h => h) (fun _ _ h => h.elim)⟩
  · rcases at_ i y hi with ⟨h1, _⟩ | ⟨rfl, _⟩
    · exact y.stable w w' _ (h.all i y h1) k (fun _ _ h => h)
    · exact hx
  · rcases at_ i y hi with ⟨h1, e1⟩ | ⟨rfl, e1⟩ <;> rcases at_ j z hj with ⟨h2, e2⟩ | ⟨rfl, e2⟩
    · exact h.dis i j y z h1 h2 hij b hy hz'
    · have := h.rng i y h1 b hy; have := hf b hz'; omega
    · have := h.rng j z h2 b hz'; have := hf b hy; omega
    · omega
  · rcases at_ i y hi with ⟨h1, _⟩ | ⟨rfl, _⟩
    · have := h.rng i y h1 b hb; exact ⟨this.1, by omega⟩
    · have := hf b hb; exact ⟨.inl (by omega), this.2⟩
theorem M.upd (h : M F w0 w l) (i : Nat) {x : It} (hi : l[i]? = some x) {S : Nat → Prop} (k : Keep S w w') (hS : ∀ k, S k → x.foot k) {y : It} (hy : y.holds w') (hf : ∀ k, y.foot k → x.foot k ∨ (w.heap.size ≤ k ∧ k < w'.heap.size)) : M F w0 w' (l.set i y) := by
  have hlt : i < l.length := (List.getElem?_eq_some_iff.1 hi).1
  have at_ : ∀ (j : Nat) (z : It), (l.set i y)[j]? = some z → (l[j]? = some z ∧ j ≠ i) ∨ (z = y ∧ j = i) := by
    intro j z hj
    by_cases e : j = i
    · subst e
      rw [List.getElem?_set_self hlt] at hj
      exact .inr ⟨by simpa using hj.symm, rfl⟩
    · rw [List.getElem?_set_ne (Ne.symm e)] at hj
      exact .inl ⟨hj, e⟩
  have hz := k.size
  have h0 := h.keep.size
  refine ⟨fun j z hj => ?_, fun j m z u hj hm hjm b hz' hu => ?_, fun j z hj b hb => ?_, h.keep.trans' k (fun _ _ h => h) (fun b hb e => ?_)⟩
  · rcases at_ j z hj with ⟨h1, e⟩ | ⟨rfl, _⟩
    · exact z.stable w w' S (h.all j z h1) k (fun b hb hs => h.dis j i z x h1 hi e b hb (hS b hs))
    · exact hy
  · rcases at_ j z hj with ⟨h1, e1⟩ | ⟨rfl, e1⟩ <;> rcases at_ m u hm with ⟨h2, e2⟩ | ⟨rfl, e2⟩
    · exact h.dis j m z u h1 h2 hjm b hz' hu
    · rcases hf b hu with e | e
      · exact h.dis j i z x h1 hi e1 b hz' e
      · have := h.rng j z h1 b hz'; omega
    · rcases hf b hz' with e | e
      · exact h.dis m i u x h2 hi e2 b hu e
      · have := h.rng m u h2 b hu; omega
    · omega
  · rcases at_ j z hj with ⟨h1, _⟩ | ⟨rfl, _⟩
    · have := h.rng j z h1 b hb; exact ⟨this.1, by omega⟩
    · rcases hf b hb with e | e
      · have := h.rng i x hi b e; exact ⟨this.1, by omega⟩
      · exact ⟨.inl (by omega), e.2⟩
  · rcases (h.rng i x hi b (hS b e)).1 with h1 | h1
    · omega
    · exact h1
theorem M.get (h : M F w0 w l) (i : Nat) {x : It} (hi : l[i]? = some x) : x.holds w := h.all i x hi
theorem M.turn (h : M F w0 w l) (i : Nat) {x : It} (hi : l[i]? = some x) (y : It) (hy : y.holds w) (hf : ∀ k, y.foot k → x.foot k) : M F w0 w (l.set i y) :=
  h.upd i hi (Keep.refl (fun _ => False) w) (fun _ h => h.elim) hy (fun k hk => .inl (hf k hk))
/-- Some of it, in another order. -/
theorem M.sub (h : M F w0 w l) (m : List It) (f : List Nat) (hf : f.Nodup) (hm : m.map some = f.map fun i => l[i]?) : M F w0 w m := by
  have at_ : ∀ (i : Nat) (x : It), m[i]? = some x → ∃ j, f[i]? = some j ∧ l[j]? = some x := by
    intro i x hi
    have h1 : (m.map some)[i]? = some (some x) := by rw [List.getElem?_map, hi]; rfl
    rw [hm, List.getElem?_map] at h1
    cases hj : f[i]? with
    | none => rw [hj] at h1; cases h1
    | some j => rw [hj] at h1; exact ⟨j, rfl, by simpa using h1⟩
  refine ⟨fun i x hi => ?_, fun i j x y hi hj hij k hx => ?_, fun i x hi k hk => ?_, h.keep⟩
  · obtain ⟨a, _, h2⟩ := at_ i x hi; exact h.all a x h2
  · obtain ⟨a, h1, h2⟩ := at_ i x hi
    obtain ⟨b, h3, h4⟩ := at_ j y hj
    refine h.dis a b x y h2 h4 (fun e => hij ?_) k hx
    subst e
    have hi' := (List.getElem?_eq_some_iff.1 h1).1
    have hj' := (List.getElem?_eq_some_iff.1 h3).1
    exact (List.getElem_inj hf).1 (by rw [(List.getElem?_eq_some_iff.1 h1).2, (List.getElem?_eq_some_iff.1 h3).2])
  · obtain ⟨a, _, h2⟩ := at_ i x hi; exact h.rng a x h2 k hk
theorem M.take (h : M F w0 w l) (n : Nat) : M F w0 w (l.take n) := by
  have at_ : ∀ (i : Nat) (x : It), (l.take n)[i]? = some x → l[i]? = some x := by
    intro i x hi
    rw [List.getElem?_take] at hi
    split at hi
    · exact hi
    · cases hi
  exact ⟨fun i x hi => h.all i x (at_ i x hi), fun i j x y hi hj => h.dis i j x y (at_ i x hi) (at_ j y hj), fun i x hi => h.rng i x (at_ i x hi), h.keep⟩
theorem M.alloc (h : M F w0 w l) (o : Obj) {b : Nat} (hb : w.heap.size = b) : M F w0 (w.alloc o) (l ++ [blk b o]) := by
  subst hb
  exact h.add (x := blk w.heap.size o) ((Keep.refl _ _).alloc o) (heap_alloc_new w o) (fun k (hk : k = w.heap.size) => by subst hk; simp)
theorem M.setc (h : M F w0 w l) (i : Nat) {b : Nat} {cs : Array Value} {t : TypeId} {fr : Nat × Nat} (hi : l[i]? = some (blk b (.cells cs t fr))) (j : Nat) (v : Value) : M F w0 (w.setCell ⟨b, j, none⟩ v) (l.set i (blk b (.cells (cs.setIfInBounds j v) t fr))) :=
  h.upd i hi (S := fun k => k = b) (Keep.setCell (Keep.refl _ _) ⟨b, j, none⟩ v (fun _ => rfl)) (fun _ h => h) (y := blk b _) (block_set (h.get i hi) v) (fun k hk => .inl hk)
theorem M.setr (h : M F w0 w l) (i : Nat) {b : Nat} {cs : Array Value} {t : TypeId} {fr : Nat × Nat} (hi : l[i]? = some (blk b (.cells cs t fr))) (cs' : Array Value) : M F w0 (w.setRow b cs') (l.set i (blk b (.cells cs' t fr))) :=
  h.upd i hi (S := fun k => k = b) ((Keep.refl _ _).setRow b cs' (fun _ => rfl)) (fun _ h => h) (y := blk b _) (setRow_heap w b cs cs' t fr (h.get i hi)) (fun k hk => .inl hk)
theorem M.cell (h : M F w0 w l) (i : Nat) {b : Nat} {cs : Array Value} {t : TypeId} {fr : Nat × Nat} (hi : l[i]? = some (blk b (.cells cs t fr))) (j : Nat) {v : Value} (hj : cs[j]? = some v) : w.cell? ⟨b, j, none⟩ = some v :=
  (cell_of (h.get i hi)).trans hj
theorem M.free (h : M F w0 w l) (i : Nat) {b : Nat} {cs : Array Value} {t : TypeId} (hi : l[i]? = some (blk b (.cells cs t (0, 0)))) (j : Nat) : w.frozen? ⟨b, j, none⟩ = false := free_of (h.get i hi)
theorem M.range (h : M F w0 w l) (i : Nat) {b : Nat} {cs : List Value} {t : TypeId} {fr : Nat × Nat} (hi : l[i]? = some (blk b (.cells cs.toArray t fr))) : w.rangeAt b 0 cs := fun j v hj => by
  rw [Nat.zero_add, cell_of (h.get i hi), List.getElem?_toArray]; exact hj
theorem M.lt (h : M F w0 w l) (i : Nat) {x : It} (hi : l[i]? = some x) {k : Nat} (hk : x.foot k) : k < w.heap.size := (h.rng i x hi k hk).2
theorem M.drew (h : M F w0 w l) : M F w0 w.drew l := h.calm (Keep.refl _ _).drew

theorem own_foot {v v' : Value} {S : Nat} (h3 : v'.ownBlock = v.ownBlock ∨ v'.ownBlock = some S) {n : Nat} (hn : ∀ k, v'.ownBlock = some k → k < n) : ∀ k, v'.ownBlock = some k → v.ownBlock = some k ∨ (S ≤ k ∧ k < n) := fun k hk => by
  rcases h3 with e | e
  · exact .inl (e ▸ hk)
  · have h1 := hn k hk
    rw [e] at hk
    have : S = k := by simpa using hk
    exact .inr ⟨by omega, h1⟩
theorem M.appB (h : M F w0 w l) (i : Nat) {v v' : Value} {bs bs' : List UInt8} (hi : l[i]? = some (byt v bs)) (h1 : Byt.Own w' v' bs') (k : Keep (fun k => v.ownBlock = some k) w w') (h3 : v'.ownBlock = v.ownBlock ∨ v'.ownBlock = some w.heap.size) : M F w0 w' (l.set i (byt v' bs')) :=
  h.upd i hi k (fun _ h => h) (y := byt v' bs') h1 (own_foot h3 fun k hk => h1.lt hk)
theorem M.appI (h : M F w0 w l) (i : Nat) {v v' : Value} {els els' : List (List UInt8)} (hi : l[i]? = some (ids v els)) (h1 : Ids.Own w' v' els') (k : Keep (fun k => v.ownBlock = some k) w w') (h3 : v'.ownBlock = v.ownBlock ∨ v'.ownBlock = some w.heap.size) : M F w0 w' (l.set i (ids v' els')) :=
  h.upd i hi k (fun _ h => h) (y := ids v' els') h1 (own_foot h3 fun k hk => h1.lt hk)
theorem M.nilB (h : M F w0 w l) : M F w0 w (l ++ [byt (.slice none 0 0) []]) := h.add (x := byt (.slice none 0 0) []) (Keep.refl _ _) (Byt.Own.nil w) (fun k hk => by simp [byt, Value.ownBlock] at hk)
theorem M.nilI (h : M F w0 w l) : M F w0 w (l ++ [ids (.slice none 0 0) []]) := h.add (x := ids (.slice none 0 0) []) (Keep.refl _ _) (Ids.Own.nil w) (fun k hk => by simp [ids, Value.ownBlock] at hk)
/-! The reader. -/
theorem M.open (h : M F w0 w l) (s : ByteArray) (hs : s.size ≤ maxLen) {b : Nat} (hb : w.heap.size = b) : Calls Try.prog 32 #[.string s] w fun e w' => e = .returned (.pointer (some ⟨b, 0, none⟩)) ∧ M F w0 w' (l ++ [rd b s 0 0]) := by
  subst hb
  refine (open_any w s hs).mono ?_
  rintro e w' ⟨rfl, h1, k1⟩
  exact ⟨rfl, h.add (x := rd w.heap.size s 0 0) k1 h1 (fun k (hk : k = w.heap.size) => by have := lt_of_block h1.blk; omega)⟩
theorem M.rnum (h : M F w0 w l) (i : Nat) {b : Nat} {s : ByteArray} {a : Nat} {bad k : Int} (hi : l[i]? = some (rd b s a bad)) {n a' : Nat} {b' : Int} (hv : Oct.rnum s a bad k = (n, a', b')) :
    Calls Try.prog 33 #[.pointer (some ⟨b, 0, none⟩), .int .i64 k] w fun e w' => e = .returned (.int .i64 n) ∧ M F w0 w' (l.set i (rd b s a' b')) := by
  refine (Ids.rnum_v w b s a bad k n a' b' (h.get i hi) hv).mono ?_
  rintro e w' ⟨rfl, h1, k1⟩
  exact ⟨rfl, h.upd i hi k1 (fun _ h => h) (y := rd b s a' b') h1 (fun k hk => .inl hk)⟩
theorem M.rraw (h : M F w0 w l) (i : Nat) {b : Nat} {s : ByteArray} {a : Nat} {bad k : Int} (hi : l[i]? = some (rd b s a bad)) {x : ByteArray} {a' : Nat} {b' : Int} (hv : Oct.rraw s a bad k = (x, a', b')) :
    Calls Try.prog 69 #[.pointer (some ⟨b, 0, none⟩), .int .i64 k] w fun e w' => e = .returned (.string x) ∧ M F w0 w' (l.set i (rd b s a' b')) := by
  refine (Ids.rraw_v w b s a bad k x a' b' (h.get i hi) hv).mono ?_
  rintro e w' ⟨rfl, h1, k1⟩
  exact ⟨rfl, h.upd i hi k1 (fun _ h => h) (y := rd b s a' b') h1 (fun k hk => .inl hk)⟩
theorem M.rleft (h : M F w0 w l) (i : Nat) {b : Nat} {s : ByteArray} {a : Nat} {bad : Int} (hi : l[i]? = some (rd b s a bad)) {v : Int} (hv : (if bad = 0 then ((s.size : Int) - a) else 0) = v) :
    Calls Try.prog 75 #[.pointer (some ⟨b, 0, none⟩)] w fun e w' => e = .returned (.int .i64 v) ∧ M F w0 w' l := by
  refine (left_any w b s a bad (h.get i hi)).mono ?_
  rintro e w' ⟨rfl, k1⟩
  exact ⟨by rw [← hv], h.calm k1⟩
theorem M.rerr (h : M F w0 w l) (i : Nat) {b : Nat} {s : ByteArray} {a : Nat} {bad : Int} (hi : l[i]? = some (rd b s a bad)) :
    Calls Try.prog 34 #[.pointer (some ⟨b, 0, none⟩)] w fun e w' => e = .returned (.int .i64 bad) ∧ w' = w := by
  refine (err_any w b s a bad (h.get i hi)).mono ?_
  rintro e w' ⟨rfl, rfl⟩
  exact ⟨rfl, rfl⟩
theorem M.rend (h : M F w0 w l) (i : Nat) {b : Nat} {s : ByteArray} {a : Nat} {bad : Int} (hi : l[i]? = some (rd b s a bad)) {v : Int} (hv : Ref.endv s a bad = v) :
    Calls Try.prog 38 #[.pointer (some ⟨b, 0, none⟩)] w fun e w' => e = .returned (.int .i64 v) ∧ M F w0 w' l := by
  refine (end_any w b s a bad (h.get i hi)).mono ?_
  rintro e w' ⟨rfl, k1⟩
  exact ⟨by rw [← hv]; rfl, h.calm k1⟩
/-! The document's reader. -/
theorem M.xnew (h : M F w0 w l) (s : ByteArray) (hs : s.size ≤ maxLen) {b : Nat} (hb : w.heap.size = b) : M F w0 (w.alloc (.cells #[.string s, .int .i64 0] 76)) (l ++ [xr b s 0 0]) := by
  subst hb
  exact h.add (x := xr w.heap.size s 0 0) ((Keep.refl _ _).alloc _) (Ref.xa_new w s hs) (fun k (hk : k = w.heap.size) => by subst hk; simp)
theorem M.xcells (h : M F w0 w l) (i : Nat) {b : Nat} {s : ByteArray} {a : Nat} {bad : Int} (hi : l[i]? = some (xr b s a bad)) : w.cell? ⟨b, 0, none⟩ = some (.string (s.extract a s.size)) ∧ w.cell? ⟨b, 1, none⟩ = some (.int .i64 bad) :=
  ⟨by rw [cell_of (Ref.IsXa.x (h.get i hi)).blk]; rfl, Ref.IsXa.err (h.get i hi)⟩
theorem M.xnum (h : M F w0 w l) (i : Nat) {b : Nat} {s : ByteArray} {a : Nat} {bad k : Int} (hi : l[i]? = some (xr b s a bad)) {n a' : Nat} {b' : Int} (hv : Oct.rnum s a bad k = (n, a', b')) :
    Calls Try.prog 39 #[.pointer (some ⟨b, 0, none⟩), .int .i64 k] w fun e w' => e = .returned (.int .i64 n) ∧ M F w0 w' (l.set i (xr b s a' b')) := by
  refine (Ref.xnum_a (h.get i hi) hv).mono ?_
  rintro e w' ⟨rfl, h1, k1⟩
  exact ⟨rfl, h.upd i hi k1 (fun _ h => h) (y := xr b s a' b') h1 (fun k hk => .inl hk)⟩
theorem M.xraw (h : M F w0 w l) (i : Nat) {b : Nat} {s : ByteArray} {a : Nat} {bad k : Int} (hi : l[i]? = some (xr b s a bad)) {x : ByteArray} {a' : Nat} {b' : Int} (hv : Oct.rraw s a bad k = (x, a', b')) :
    Calls Try.prog 66 #[.pointer (some ⟨b, 0, none⟩), .int .i64 k] w fun e w' => e = .returned (.string x) ∧ M F w0 w' (l.set i (xr b s a' b')) := by
  refine (Ref.xraw_a (h.get i hi) hv).mono ?_
  rintro e w' ⟨rfl, h1, k1⟩
  exact ⟨rfl, h.upd i hi k1 (fun _ h => h) (y := xr b s a' b') h1 (fun k hk => .inl hk)⟩
theorem M.xid (h : M F w0 w l) (i : Nat) {b : Nat} {s : ByteArray} {a : Nat} {bad : Int} (hi : l[i]? = some (xr b s a bad)) {x : ByteArray} {a' : Nat} {b' : Int} (hv : Oct.rraw s a bad 32 = (x, a', b')) :
    Calls Try.prog 41 #[.pointer (some ⟨b, 0, none⟩)] w fun e w' => e = .returned (Ids.idv (Ids.pad x.data.toList)) ∧ M F w0 w' (l.set i (xr b s a' b')) := by
  refine (Ref.xid_a (h.get i hi) hv).mono ?_
  rintro e w' ⟨rfl, h1, k1⟩
  exact ⟨rfl, h.upd i hi k1 (fun _ h => h) (y := xr b s a' b') h1 (fun k hk => .inl hk)⟩
theorem M.xend (h : M F w0 w l) (i : Nat) {b : Nat} {s : ByteArray} {a : Nat} {bad : Int} (hi : l[i]? = some (xr b s a bad)) {v : Int} (hv : Ref.endv s a bad = v) :
    Calls Try.prog 43 #[.pointer (some ⟨b, 0, none⟩)] w fun e w' => e = .returned (.int .i64 v) ∧ w' = w := by
  refine (Ref.xend_a (h.get i hi) hv).mono ?_
  rintro e w' ⟨rfl, rfl⟩
  exact ⟨rfl, rfl⟩
/-! The writer. -/
theorem M.new (h : M F w0 w l) {b : Nat} (hb : w.heap.size = b) : Calls Try.prog 45 #[] w fun e w' => e = .returned (.pointer (some ⟨b, 0, none⟩)) ∧ M F w0 w' (l ++ [wr b [] (.slice none 0 0)]) := by
  subst hb
  refine (new_any w).mono ?_
  rintro e w' ⟨rfl, h1, k1⟩
  refine ⟨rfl, h.add (x := wr w.heap.size [] (.slice none 0 0)) k1 h1 (fun k hk => ?_)⟩
  have := lt_of_block h1.blk
  rcases hk with hk | hk
  · omega
  · simp [Value.ownBlock] at hk
theorem M.wrote (h : M F w0 w l) (i : Nat) {b : Nat} {bs bs' : List UInt8} {sv sv' : Value} (hi : l[i]? = some (wr b bs sv)) (hw : IsW w' b bs' 0 sv') (k : After w w' b sv sv') : M F w0 w' (l.set i (wr b bs' sv')) := by
  refine h.upd i hi k.1 (fun _ h => h) (y := wr b bs' sv') hw (fun x hx => ?_)
  rcases hx with hx | hx
  · exact .inl (.inl hx)
  · rcases k.2 x hx with e | e
    · exact .inl (.inr e)
    · exact .inr ⟨e, (hw.own.lt x hx).2⟩
theorem M.wnum (h : M F w0 w l) (i : Nat) {b : Nat} {bs : List UInt8} {sv : Value} (hi : l[i]? = some (wr b bs sv)) (n : Int) (k : Nat) (hk : k = 1 ∨ k = 2 ∨ k = 4) (hn : 0 ≤ n) (hn' : n < 256 ^ k) (hl : bs.length ≤ 1000000000) :
    Calls Try.prog 46 #[.pointer (some ⟨b, 0, none⟩), .int .i64 n, .int .i64 k] w fun e w' => e = .returned (.pointer (some ⟨b, 0, none⟩)) ∧ ∃ sv', M F w0 w' (l.set i (wr b (bs ++ be k n) sv')) := by
  rcases hk with rfl | rfl | rfl
  · refine (num_ok1 w b bs n sv (h.get i hi) hn hn' (by omega)).mono ?_
    rintro e w' ⟨rfl, sv', h1, k1⟩
    exact ⟨rfl, sv', h.wrote i hi h1 k1⟩
  · refine (num_ok2 w b bs n sv (h.get i hi) hn hn' (by omega)).mono ?_
    rintro e w' ⟨rfl, sv', h1, k1⟩
    exact ⟨rfl, sv', h.wrote i hi h1 k1⟩
  · refine (num_ok4 w b bs n sv (h.get i hi) hn hn' (by omega)).mono ?_
    rintro e w' ⟨rfl, sv', h1, k1⟩
    exact ⟨rfl, sv', h.wrote i hi h1 k1⟩
theorem M.wraw (h : M F w0 w l) (i : Nat) {b : Nat} {bs : List UInt8} {sv : Value} (hi : l[i]? = some (wr b bs sv)) (s : ByteArray) (hl : bs.length + s.size ≤ 1000000000) :
    Calls Try.prog 49 #[.pointer (some ⟨b, 0, none⟩), .string s] w fun e w' => e = .returned (.pointer (some ⟨b, 0, none⟩)) ∧ ∃ sv', M F w0 w' (l.set i (wr b (bs ++ s.data.toList) sv')) := by
  refine (OctW.wraw_ok w b bs s sv (h.get i hi) (by omega)).mono ?_
  rintro e w' ⟨rfl, sv', h1, k1⟩
  exact ⟨rfl, sv', h.wrote i hi h1 k1⟩
theorem M.wdone (h : M F w0 w l) (i : Nat) {b : Nat} {bs : List UInt8} {sv : Value} (hi : l[i]? = some (wr b bs sv)) :
    Calls Try.prog 48 #[.pointer (some ⟨b, 0, none⟩)] w fun e w' => e = .returned (.tuple #[.string ⟨bs.toArray⟩, .int .i64 0]) ∧ M F w0 w' l := by
  refine (OctW.done_ok w b bs sv (h.get i hi)).mono ?_
  rintro e w' ⟨rfl, k1⟩
  exact ⟨rfl, h.calm k1⟩
end
end Mem
end Go.Proofs.Ytmnmemeldjbifaa
