/-
  petrelref09.Of.
-/
import Derived.Test.YtmnmemeldjbifaaMsg7
import Derived.Test.YtmnmemeldjbifaaText2
namespace Go.Proofs.Ytmnmemeldjbifaa
open Go.RowKit
namespace Ms
open Oct Ids
open Ref (endv IsXa)

/-- Where the document's 'Of' stands. -/
structure OX (w wr : World) (s : ByteArray) (a : Nat) (b : Int) (K : Int) (v : Value) (B : ByteArray) (els : List (List UInt8)) (mb : Nat) : Prop where
  r : IsXa wr (w.heap.size + 1) s a b
  rv : wr.heap[w.heap.size]? = some (.cells #[.int .i64 0, .slice none 0 0, .string ByteArray.empty] 25 (0, 0))
  m : wr.heap[mb]? = some (.cells #[.int .i64 K, v, .string B] 25 (0, 0))
  own : Own wr v els
  new : ∀ y, v.ownBlock = some y → w.heap.size + 1 < y ∧ y ≠ mb
  keep : Keep (fun _ => False) w wr
  lt : w.heap.size + 1 < mb
section
variable {w wr : World} {s : ByteArray} {a : Nat} {b K : Int} {v : Value} {B : ByteArray} {els : List (List UInt8)} {mb : Nat}
theorem OX.cells (h : OX w wr s a b K v B els mb) : wr.cell? ⟨mb, 0, none⟩ = some (.int .i64 K) ∧ wr.cell? ⟨mb, 1, none⟩ = some v ∧ wr.cell? ⟨mb, 2, none⟩ = some (.string B) ∧ wr.frozen? ⟨mb, 1, none⟩ = false ∧ wr.frozen? ⟨mb, 2, none⟩ = false :=
  ⟨by rw [cell_of h.m]; rfl, by rw [cell_of h.m]; rfl, by rw [cell_of h.m]; rfl, free_of h.m, free_of h.m⟩
theorem OX.calm (h : OX w wr s a b K v B els mb) {w' : World} (k : Keep (fun _ => False) wr w') : OX w w' s a b K v B els mb :=
  ⟨h.r.keep k (fun h => h), k.get h.rv (fun h => h), k.get h.m (fun h => h), h.own.keep k (fun _ _ h => h), h.new, h.keep.trans k, h.lt⟩
theorem OX.read (h : OX w wr s a b K v B els mb) {w' : World} {a' : Nat} {b' : Int} (hr : IsXa w' (w.heap.size + 1) s a' b') (k : Keep (fun y => y = w.heap.size + 1) wr w') : OX w w' s a' b' K v B els mb := by
  have hl := h.lt
  exact ⟨hr, k.get h.rv (fun e => by omega), k.get h.m (fun e => by omega), h.own.keep k (fun y hy e => by have := h.new y hy; omega), h.new, h.keep.trans' k (fun _ _ h => h) (fun y hy e => by omega), hl⟩
theorem ox_start {w1 w2 : World} {a1 : Nat} {b1 : Int} {n : Nat} (k1 : Keep (fun _ => False) (w.alloc (.cells #[.int .i64 0, .slice none 0 0, .string ByteArray.empty] 25)) w1) (h2 : IsXa w2 (w.heap.size + 1) s a1 b1) (k2 : Keep (fun y => y = w.heap.size + 1) w1 w2) :
    OX w (w2.alloc (.cells #[.int .i64 n, .slice none 0 0, .string ⟨#[]⟩] 25)) s a1 b1 n (.slice none 0 0) ByteArray.empty [] w2.heap.size := by
  have h3 := h2.lt
  have hk : Keep (fun _ => False) w w2 := (((Keep.refl (fun _ => False) w).alloc _).trans k1).trans' k2 (fun _ _ h => h) (fun y hy e => by omega)
  exact ⟨h2.keep ((Keep.refl (fun _ => False) _).alloc _) (fun h => h), heap_a (k2.get (k1.get (heap_alloc_new w _) (fun h => h)) (fun e => by omega)), heap_alloc_new _ _, Own.nil _, fun y hy => by simp [Value.ownBlock] at hy, hk.alloc _, h3⟩
theorem rcheck_ox {va : Option Addr} {n c : Nat} (h : OX w wr s a b K (.slice va n c) B els mb) {e : Int} (hc : chk K n B = e) : Calls Try.prog 18 #[.agg #[.int .i64 K, .slice va n c, .string B]] wr fun en w' => en = .returned (.int .i64 e) ∧ OX w w' s a b K (.slice va n c) B els mb := by
  refine (rcheck_any wr K va n c B).mono ?_
  rintro en w' ⟨rfl, h1⟩
  exact ⟨by rw [hc], h.calm h1⟩
theorem OX.setIds (h : OX w wr s a b K v B els mb) {v' : Value} {els' : List (List UInt8)} (h1 : Own wr v' els') (h2 : ∀ y, v'.ownBlock = some y → w.heap.size + 1 < y ∧ y ≠ mb) : OX w (wr.setCell ⟨mb, 1, none⟩ v') s a b K v' B els' mb := by
  have hl := h.lt
  have hk : Keep (fun y => y = mb) wr (wr.setCell ⟨mb, 1, none⟩ v') := (Keep.refl _ _).setCell _ _ (fun _ => rfl)
  exact ⟨h.r.keep hk (fun e => by omega), hk.get h.rv (fun e => by omega), by rw [block_set h.m]; rfl, h1.keep hk (fun y hy e => (h2 y hy).2 e), h2, h.keep.setCell _ _ (fun e => by simp at e; omega), hl⟩
theorem OX.setBody (h : OX w wr s a b K v B els mb) (x : ByteArray) : OX w (wr.setCell ⟨mb, 2, none⟩ (.string x)) s a b K v x els mb := by
  have hl := h.lt
  have hk : Keep (fun y => y = mb) wr (wr.setCell ⟨mb, 2, none⟩ (.string x)) := (Keep.refl _ _).setCell _ _ (fun _ => rfl)
  exact ⟨h.r.keep hk (fun e => by omega), hk.get h.rv (fun e => by omega), by rw [block_set h.m]; rfl, h.own.keep hk (fun y hy e => (h.new y hy).2 e), h.new, h.keep.setCell _ _ (fun e => by simp at e; omega), hl⟩
theorem xnum_ox (h : OX w wr s a b K v B els mb) {k : Int} {n a' : Nat} {b' : Int} (hv : rnum s a b k = (n, a', b')) : Calls Try.prog 39 #[.pointer (some ⟨w.heap.size + 1, 0, none⟩), .int .i64 k] wr fun en w' => en = .returned (.int .i64 n) ∧ OX w w' s a' b' K v B els mb := by
  refine (Ref.xnum_a h.r hv).mono ?_
  rintro en w' ⟨rfl, h1, h2⟩
  exact ⟨rfl, h.read h1 h2⟩
theorem xtext_ox (h : OX w wr s a b K v B els mb) {m : Int} {x : ByteArray} {a' : Nat} {b' : Int} (hv : rtext s a b m = (x, a', b')) : Calls Try.prog 42 #[.pointer (some ⟨w.heap.size + 1, 0, none⟩), .int .i64 m] wr fun en w' => en = .returned (.string x) ∧ OX w w' s a' b' K v B els mb := by
  refine (Ref.xtext_a h.r hv).mono ?_
  rintro en w' ⟨rfl, h1, h2⟩
  exact ⟨rfl, h.read h1 h2⟩
theorem xid_ox (h : OX w wr s a b K v B els mb) {x : ByteArray} {a' : Nat} {b' : Int} (hv : rraw s a b 32 = (x, a', b')) : Calls Try.prog 41 #[.pointer (some ⟨w.heap.size + 1, 0, none⟩)] wr fun en w' => en = .returned (idv (pad x.data.toList)) ∧ OX w w' s a' b' K v B els mb := by
  refine (Ref.xid_a h.r hv).mono ?_
  rintro en w' ⟨rfl, h1, h2⟩
  exact ⟨rfl, h.read h1 h2⟩
theorem xend_ox (h : OX w wr s a b K v B els mb) {e : Int} (he : endv s a b = e) : Calls Try.prog 43 #[.pointer (some ⟨w.heap.size + 1, 0, none⟩)] wr fun en w' => en = .returned (.int .i64 e) ∧ OX w w' s a b K v B els mb := by
  refine (Ref.xend_a h.r he).mono ?_
  rintro en w' ⟨rfl, rfl⟩
  exact ⟨rfl, h⟩
theorem OX.append (h : OX w wr s a b K v B els mb) {w' : World} {v' : Value} {els' : List (List UInt8)} (k : Keep (fun y => v.ownBlock = some y) wr w') (h1 : Own w' v' els') (h3 : v'.ownBlock = v.ownBlock ∨ v'.ownBlock = some wr.heap.size) :
    OX w (w'.setCell ⟨mb, 1, none⟩ v') s a b K v' B els' mb := by
  have hl := h.lt
  have hm := lt_of_block h.m
  have hrl := h.r.lt
  have hw := h.keep.size
  have hn : ∀ y, v'.ownBlock = some y → w.heap.size + 1 < y ∧ y ≠ mb := fun y hy => by
    rcases h3 with e | e
    · rw [e] at hy; exact h.new y hy
    · rw [e] at hy; simp at hy; omega
  have hk : Keep (fun y => y = mb) w' (w'.setCell ⟨mb, 1, none⟩ v') := (Keep.refl _ _).setCell _ _ (fun _ => rfl)
  have hk2 : Keep (fun _ => False) w w' := h.keep.trans' k (fun _ _ h => h) (fun y hy e => by have := h.new y e; omega)
  exact ⟨(h.r.keep k (fun e => by have := h.new _ e; omega)).keep hk (fun e => by omega), hk.get (k.get h.rv (fun e => by have := h.new _ e; omega)) (fun e => by omega), by rw [block_set (k.get h.m (fun e => (h.new _ e).2 rfl))]; rfl, h1.keep hk (fun y hy e => (hn y hy).2 e), hn, hk2.setCell _ _ (fun e => by simp at e; omega), hl⟩
end
theorem heap_drew {w : World} {g : Nat} {o : Option Obj} (h : w.heap[g]? = o) : w.drew.heap[g]? = o := h
theorem hx0 (w : World) (s : ByteArray) (h : s.size ≤ 1024) : IsXa ((w.alloc (.cells #[.int .i64 0, .slice none 0 0, .string ByteArray.empty] 25)).alloc (.cells #[.string s, .int .i64 0] 76)) (w.heap.size + 1) s 0 0 := by
  have := Ref.xa_new (w.alloc (.cells #[.int .i64 0, .slice none 0 0, .string ByteArray.empty] 25)) s (by unfold maxLen; omega)
  rwa [size_alloc] at this
set_option maxRecDepth 100000 in
theorem rof_long (w : World) (s : ByteArray) (h : 1024 < s.size) : Calls Try.prog 13 #[.string s] w fun e w' => e = .returned (mz 3) ∧ Keep (fun _ => False) w w' := by
  go_enter Try.func13, Try.ntmps13
  go_wp2_with fail
  refine bodyPost_ret (res_me rfl _ _ w.heap.size #[.int .i64 0, .slice none 0 0, .string ByteArray.empty] rfl rfl (heap_alloc_new w _) _ rfl) rfl ?_
  exact ⟨rfl, (Keep.refl _ _).alloc _⟩
set_option maxRecDepth 100000 in
theorem rof_short (w : World) (s : ByteArray) (h : s.size ≤ 1024) (n a1 : Nat) (b1 : Int) (hv : rnum s 0 0 1 = (n, a1, b1)) (hb : b1 ≠ 0) : Calls Try.prog 13 #[.string s] w fun e w' => e = .returned (mz b1) ∧ Keep (fun _ => False) w w' := by
  have Hv : Hid _ := hv
  have hb' : (b1 != 0) = true := by simpa using hb
  have H0 : Hid _ := hx0 w s h
  clear hv hb
  go_enter Try.func13, Try.ntmps13
  go_wp2_with (first | (go_at_call 39; first | (refine (xnum_ox HS.out Hn.out).mono ?_; rintro e w3 ⟨rfl, h1⟩; have HL : Hid _ := h1; clear h1; obtain ⟨g0, g1, g2, f1, f2⟩ := HL.out.cells; have ge := HL.out.r.err) | (refine (Ref.xnum_a H0.out Hv.out).mono ?_; rintro e w2 ⟨rfl, h1, k1⟩; have HS : Hid _ := ox_start (n := n) ((Keep.refl _ _).alloc _) h1 k1; clear h1 k1; obtain ⟨g0, g1, g2, f1, f2⟩ := HS.out.cells; have ge := HS.out.r.err)) | (go_at_call 40; refine (kind_any _ _).mono ?_; rw [Hk.out]; rintro e w9 ⟨rfl, rfl⟩) | (refine wl_storeRow info_msg rfl rfl rfl rfl rfl rfl (by simp [Value.oneCell']) HS.out.rv rfl ?_) | (refine wl_storeRow info_msg rfl rfl rfl rfl rfl rfl (by simp [Value.oneCell']) HE.out.rv rfl ?_) | (go_at_call 42; refine (xtext_ox HS.out Ht.out).mono ?_; rintro e w4 ⟨rfl, h1⟩; have HL : Hid _ := h1; clear h1; obtain ⟨g0, g1, g2, f1, f2⟩ := HL.out.cells) | (go_at_call 43; refine (xend_ox HS.out He.out).mono ?_; rintro e w5 ⟨rfl, h1⟩; have HE : Hid _ := h1; clear h1; obtain ⟨g0, g1, g2, f1, f2⟩ := HE.out.cells) | (go_at_call 18; refine (rcheck_ox HE.out Hc.out).mono ?_; rintro e w6 ⟨rfl, h1⟩; have HE : Hid _ := h1; clear h1; obtain ⟨g0, g1, g2, f1, f2⟩ := HE.out.cells))
  refine Txt.wp_region_text (fun w' => w'.cell? ⟨w.heap.size + 1, 1, none⟩ = some (.int .i64 b1)) [0, 0, 0, 0, 2, 4, 0] (by kernel_rfl) (by kernel_rfl) ge ?_
  repeat (first
    | (refine Txt.tl_pure (v := ?_) (by rfl) ?_ ?_; rotate_left; (focus (intro _; go_simp; try with_reducible rfl)); simp only [Act.put, List.setIfInBounds_toArray, List.set_cons_zero, List.set_cons_succ])
    | (refine Txt.tl_skip (by rfl) trivial ?_; simp only [Act.put, List.setIfInBounds_toArray, List.set_cons_zero, List.set_cons_succ])
    | (refine Txt.tl_load (v := ?_) (by rfl) (by rfl) (by rfl) (by kernel_rfl) ?_ ?_; rotate_left; (focus (first | assumption | (go_simp; done) | (go_simp; with_reducible rfl))); simp only [Act.put, List.setIfInBounds_toArray, List.set_cons_zero, List.set_cons_succ])
    | (refine Txt.tl_alloc (by rfl) ?_; go_simp; refine ⟨by (first | exact Txt.Le.alloc_drew _ _ | exact Txt.Le.alloc _ _), ?_⟩))
  refine Txt.tl_loadS (v := .int .i64 b1) (by rfl) (by rfl) (by rfl) (by kernel_rfl) (fun _ h => h) ?_
  simp only [Act.put, List.setIfInBounds_toArray, List.set_cons_zero, List.set_cons_succ]
  refine Txt.tl_loud (by rfl) ?_
  refine wp_storeRow info_msg rfl rfl rfl rfl rfl (by simp [Value.oneCell']) HS.out.rv rfl ?_
  refine ⟨(cell_setRow_other _ _ _ _ (by show w.heap.size + 1 ≠ w.heap.size; omega)).trans ge, ?_⟩
  repeat (first
    | (refine Txt.tl_pure (v := ?_) (by rfl) ?_ ?_; rotate_left; (focus (intro _; go_simp; try with_reducible rfl)); simp only [Act.put, List.setIfInBounds_toArray, List.set_cons_zero, List.set_cons_succ])
    | (refine Txt.tl_skip (by rfl) trivial ?_; simp only [Act.put, List.setIfInBounds_toArray, List.set_cons_zero, List.set_cons_succ])
    | (refine Txt.tl_load (v := ?_) (by rfl) (by rfl) (by rfl) (by kernel_rfl) ?_ ?_; rotate_left; (focus (first | assumption | (go_simp; done) | (go_simp; with_reducible rfl))); simp only [Act.put, List.setIfInBounds_toArray, List.set_cons_zero, List.set_cons_succ])
    | (refine Txt.tl_alloc (by rfl) ?_; go_simp; refine ⟨by (first | exact Txt.Le.alloc_drew _ _ | exact Txt.Le.alloc _ _), ?_⟩))
  refine Txt.tl_nil ?_
  go_wp2
  refine bodyPost_ret (res_me rfl _ _ w.heap.size #[.int .i64 0, .slice none 0 0, .string ByteArray.empty] rfl rfl (setRow_heap _ _ _ _ _ _ (heap_drew HS.out.rv)) _ rfl) rfl ?_
  exact ⟨rfl, HS.out.keep.drew.setRow _ _ (fun h => by omega)⟩
set_option maxRecDepth 100000 in
theorem rof_kind (w : World) (s : ByteArray) (h : s.size ≤ 1024) (n a1 : Nat) (hv : rnum s 0 0 1 = (n, a1, 0)) (hk : knd n = 0) : Calls Try.prog 13 #[.string s] w fun e w' => e = .returned (mz 10) ∧ Keep (fun _ => False) w w' := by
  have Hv : Hid _ := hv
  have Hk : Hid _ := hk
  have H0 : Hid _ := hx0 w s h
  clear hv hk
  go_enter Try.func13, Try.ntmps13
  go_wp2_with (first | (go_at_call 39; first | (refine (xnum_ox HS.out Hn.out).mono ?_; rintro e w3 ⟨rfl, h1⟩; have HL : Hid _ := h1; clear h1; obtain ⟨g0, g1, g2, f1, f2⟩ := HL.out.cells; have ge := HL.out.r.err) | (refine (Ref.xnum_a H0.out Hv.out).mono ?_; rintro e w2 ⟨rfl, h1, k1⟩; have HS : Hid _ := ox_start (n := n) ((Keep.refl _ _).alloc _) h1 k1; clear h1 k1; obtain ⟨g0, g1, g2, f1, f2⟩ := HS.out.cells; have ge := HS.out.r.err)) | (go_at_call 40; refine (kind_any _ _).mono ?_; rw [Hk.out]; rintro e w9 ⟨rfl, rfl⟩) | (refine wl_storeRow info_msg rfl rfl rfl rfl rfl rfl (by simp [Value.oneCell']) HS.out.rv rfl ?_) | (refine wl_storeRow info_msg rfl rfl rfl rfl rfl rfl (by simp [Value.oneCell']) HE.out.rv rfl ?_) | (go_at_call 42; refine (xtext_ox HS.out Ht.out).mono ?_; rintro e w4 ⟨rfl, h1⟩; have HL : Hid _ := h1; clear h1; obtain ⟨g0, g1, g2, f1, f2⟩ := HL.out.cells) | (go_at_call 43; refine (xend_ox HS.out He.out).mono ?_; rintro e w5 ⟨rfl, h1⟩; have HE : Hid _ := h1; clear h1; obtain ⟨g0, g1, g2, f1, f2⟩ := HE.out.cells) | (go_at_call 18; refine (rcheck_ox HE.out Hc.out).mono ?_; rintro e w6 ⟨rfl, h1⟩; have HE : Hid _ := h1; clear h1; obtain ⟨g0, g1, g2, f1, f2⟩ := HE.out.cells))
  refine bodyPost_ret (res_me rfl _ _ w.heap.size #[.int .i64 0, .slice none 0 0, .string ByteArray.empty] rfl rfl (setRow_heap _ _ _ _ _ _ HS.out.rv) _ rfl) rfl ?_
  exact ⟨rfl, HS.out.keep.setRow _ _ (fun h => by omega)⟩
end Ms
end Go.Proofs.Ytmnmemeldjbifaa
