/-
  msg.Of.
-/
import Derived.Test.YthllhjdaknmlbaaMsg5
import Derived.Test.YthllhjdaknmlbaaGId
set_option linter.unusedVariables false
set_option linter.unusedSimpArgs false
namespace Go.Proofs.Ythllhjdaknmlbaa
open Go.RowKit
namespace Ms
open Oct Ids
open Ref (endv)

theorem end_v (w : World) (b : Nat) (s : ByteArray) (at_ : Nat) (bad v : Int) (h : IsR w b s at_ bad) (hv : endv s at_ bad = v) : Calls Try.prog 29 #[.pointer (some ⟨b, 0, none⟩)] w fun e w' =>
    e = .returned (.int .i64 v) ∧ Keep (fun _ => False) w w' := hv ▸ end_any w b s at_ bad h
theorem rtext_v (w : World) (b : Nat) (s : ByteArray) (at_ : Nat) (bad m : Int) (x : ByteArray) (a' : Nat) (b' : Int) (h : IsR w b s at_ bad) (hv : rtext s at_ bad m = (x, a', b')) :
    Calls Try.prog 28 #[.pointer (some ⟨b, 0, none⟩), .int .i64 m] w fun e w' => e = .returned (.string x) ∧ IsR w' b s a' b' ∧ Keep (fun k => k = b) w w' := by
  have := rtext_any w b s at_ bad m h
  rw [hv] at this
  exact this
theorem size_alloc (w : World) (o : Obj) : (w.alloc o).heap.size = w.heap.size + 1 := Array.size_push ..
theorem info_msg : (Try.prog.info? 28).map (·.size) = some 3 := by kernel_rfl
/-- What a function answers whose first result is a message, in a variable of its own. -/
theorem res_me {fn : Func} {p q : Tmp} (h : fn.results = #[.cell p 28, .tmp q]) (tmps : Array Value) (w : World) (g : Nat) (cs : Array Value) (hc : cs.size = 3) (hp : tmps.getD p undef = .pointer (some ⟨g, 0, none⟩)) {fr : Nat × Nat} (hg : w.heap[g]? = some (.cells cs 28 fr)) (e : Value) (hq : tmps.getD q undef = e) :
    (results fn tmps).run Try.prog w = .ok (.tuple #[.agg cs, e]) w := by
  have hp' : tmps[p]?.getD undef = .pointer (some ⟨g, 0, none⟩) := by simpa using hp
  have hq' : tmps[q]?.getD undef = e := by simpa using hq
  simp [results, h, hp', hq', asAddr, run_loadVar_row w g _ _ cs fr _ hg Try.underlying28 rfl (by rw [info_msg, hc])]
/-- A zero message, with an error. -/
abbrev mz (e : Int) : Value := .tuple #[.agg #[.int .i64 0, .slice none 0 0, .string ByteArray.empty], .int .i64 e]

set_option maxRecDepth 100000 in
theorem of_long (w : World) (s : ByteArray) (h : 1024 < s.size) : Calls Try.prog 10 #[.string s] w fun e w' => e = .returned (mz 3) ∧ Keep (fun _ => False) w w' := by
  go_enter Try.func10, Try.ntmps10
  go_wp2_with fail
  refine bodyPost_ret (res_me rfl _ _ w.heap.size #[.int .i64 0, .slice none 0 0, .string ByteArray.empty] rfl rfl (heap_alloc_new w _) _ rfl) rfl ?_
  exact ⟨rfl, (Keep.refl _ _).alloc _⟩
section
variable {ops : Array Oper} {rest : List Oper} {op : Oper} {a : Act} {w : World} {K : Act → World → Prop} {Q : Exit → Act → World → Prop}
/-- The operation 'store a struct' into a block that is one. -/
theorem wp_storeRow {T : TypeId} {n : Nat} (hi : (Try.prog.info? T).map (·.size) = some n) {x y : Operand} (ho : op.op = .store T x y) (hd : op.dst = none) {g : Nat} {old cs : Array Value} (hx : a.eval x = .pointer (some ⟨g, 0, none⟩)) (hy : a.eval y = .agg cs)
    (hcs : cs.size = n) (hall : cs.all (·.oneCell') = true) (hg : w.heap[g]? = some (.cells old T (0, 0))) (hol : old.size = n) (h : K a (w.setRow g cs)) : op.wp Try.prog a w K Q := by
  have hr := run_storeVar_row (P := Try.prog) w g T T old cs hg (by rw [hi, hcs]) (by rw [hol, hcs]) hall
  unfold Oper.wp execOp
  simp only [ho, hx, hy, Instr.storeAt, Instr.sureAddr, Sem.run_bind, Sem.run_pure, Result.andThen_ok, hr]
  rw [Oper.upon_skip, hd]
  exact h
theorem wl_storeRow {T : TypeId} {n : Nat} (hi : (Try.prog.info? T).map (·.size) = some n) (hgd : op.guard = none) {x y : Operand} (ho : op.op = .store T x y) (hd : op.dst = none) {g : Nat} {old cs : Array Value} (hx : a.eval x = .pointer (some ⟨g, 0, none⟩)) (hy : a.eval y = .agg cs)
    (hcs : cs.size = n) (hall : cs.all (·.oneCell') = true) (hg : w.heap[g]? = some (.cells old T (0, 0))) (hol : old.size = n) (h : wpList Try.prog ops Q rest a (w.setRow g cs)) : wpList Try.prog ops Q (op :: rest) a w :=
  wpList_plain hgd fun _ hK => wp_storeRow hi ho hd hx hy hcs hall hg hol (hK _ _ h)
end
/-- Where 'Of' stands: its result's variable, its reader, its message. -/
structure OS (w wr : World) (s : ByteArray) (a : Nat) (b : Int) (K : Int) (v : Value) (B : ByteArray) (els : List (List UInt8)) (mb : Nat) : Prop where
  r : IsR wr (w.heap.size + 1) s a b
  rv : wr.heap[w.heap.size]? = some (.cells #[.int .i64 0, .slice none 0 0, .string ByteArray.empty] 28 (0, 0))
  m : wr.heap[mb]? = some (.cells #[.int .i64 K, v, .string B] 28 (0, 0))
  own : Own wr v els
  new : ∀ y, v.ownBlock = some y → w.heap.size + 1 < y ∧ y ≠ mb
  keep : Keep (fun _ => False) w wr
  lt : w.heap.size + 1 < mb
section
variable {w wr : World} {s : ByteArray} {a : Nat} {b K : Int} {v : Value} {B : ByteArray} {els : List (List UInt8)} {mb : Nat}
theorem OS.cells (h : OS w wr s a b K v B els mb) : wr.cell? ⟨mb, 0, none⟩ = some (.int .i64 K) ∧ wr.cell? ⟨mb, 1, none⟩ = some v ∧ wr.cell? ⟨mb, 2, none⟩ = some (.string B) ∧ wr.frozen? ⟨mb, 1, none⟩ = false ∧ wr.frozen? ⟨mb, 2, none⟩ = false :=
  ⟨by rw [cell_of h.m]; rfl, by rw [cell_of h.m]; rfl, by rw [cell_of h.m]; rfl, free_of h.m, free_of h.m⟩
theorem OS.calm (h : OS w wr s a b K v B els mb) {w' : World} (k : Keep (fun _ => False) wr w') : OS w w' s a b K v B els mb :=
  ⟨h.r.keep k (fun h => h), k.get h.rv (fun h => h), k.get h.m (fun h => h), h.own.keep k (fun _ _ h => h), h.new, h.keep.trans k, h.lt⟩
theorem OS.read (h : OS w wr s a b K v B els mb) {w' : World} {a' : Nat} {b' : Int} (hr : IsR w' (w.heap.size + 1) s a' b') (k : Keep (fun y => y = w.heap.size + 1) wr w') : OS w w' s a' b' K v B els mb := by
  have hl := h.lt
  exact ⟨hr, k.get h.rv (fun e => by omega), k.get h.m (fun e => by omega), h.own.keep k (fun y hy e => by have := h.new y hy; omega), h.new, h.keep.trans' k (fun _ _ h => h) (fun y hy e => by omega), hl⟩
theorem os_start {w1 w2 : World} {a1 : Nat} {b1 : Int} {n : Nat} (k1 : Keep (fun _ => False) (w.alloc (.cells #[.int .i64 0, .slice none 0 0, .string ByteArray.empty] 28)) w1) (h2 : IsR w2 (w.heap.size + 1) s a1 b1) (k2 : Keep (fun y => y = w.heap.size + 1) w1 w2) :
    OS w (w2.alloc (.cells #[.int .i64 n, .slice none 0 0, .string ByteArray.empty] 28)) s a1 b1 n (.slice none 0 0) ByteArray.empty [] w2.heap.size := by
  have h3 := lt_of_block h2.blk
  have hk : Keep (fun _ => False) w w2 := (((Keep.refl (fun _ => False) w).alloc _).trans k1).trans' k2 (fun _ _ h => h) (fun y hy e => by omega)
  exact ⟨h2.keep ((Keep.refl (fun _ => False) _).alloc _) (fun h => h), heap_a (k2.get (k1.get (heap_alloc_new w _) (fun h => h)) (fun e => by omega)), heap_alloc_new _ _, Own.nil _, fun y hy => by simp [Value.ownBlock] at hy, hk.alloc _, h3⟩
theorem list_os (h : OS w wr s a b K (.slice none 0 0) B [] mb) {n a1 : Nat} {b1 : Int} (hv : rnum s a b 1 = (n, a1, b1)) :
    Calls Try.prog 27 #[.pointer (some ⟨w.heap.size + 1, 0, none⟩)] wr fun e w' => ∃ va vc, e = .returned (.slice va n vc) ∧ OS w w' s (rdIds s a1 b1 n).2.1 (rdIds s a1 b1 n).2.2 K (.slice none 0 0) B [] mb ∧ Own w' (.slice va n vc) (rdIds s a1 b1 n).1 ∧ (∀ y, (Value.slice va n vc).ownBlock = some y → w.heap.size + 1 < y ∧ y ≠ mb) := by
  refine (list_any wr _ s a b n a1 b1 h.r hv).mono ?_
  rintro e w' ⟨v, rfl, h1, h2, h3, h4⟩
  obtain ⟨va, vc, hv', _, _⟩ := h1.at
  rw [rdIds_len] at hv'
  subst hv'
  have hl := lt_of_block h.m
  have hl2 := h.lt
  exact ⟨va, vc, rfl, h.read h2 h3, h1, fun y hy => by have := h4 y hy; omega⟩
theorem text_os (h : OS w wr s a b K v B els mb) {x : ByteArray} {a' : Nat} {b' m : Int} (hv : rtext s a b m = (x, a', b')) :
    Calls Try.prog 28 #[.pointer (some ⟨w.heap.size + 1, 0, none⟩), .int .i64 m] wr fun e w' => e = .returned (.string x) ∧ OS w w' s a' b' K v B els mb := by
  refine (rtext_v wr _ s a b m x a' b' h.r hv).mono ?_
  rintro e w' ⟨rfl, h1, h2⟩
  exact ⟨rfl, h.read h1 h2⟩
theorem end_os (h : OS w wr s a b K v B els mb) {e : Int} (he : endv s a b = e) : Calls Try.prog 29 #[.pointer (some ⟨w.heap.size + 1, 0, none⟩)] wr fun en w' => en = .returned (.int .i64 e) ∧ OS w w' s a b K v B els mb := by
  refine (end_v wr _ s a b e h.r he).mono ?_
  rintro en w' ⟨rfl, h1⟩
  exact ⟨rfl, h.calm h1⟩
theorem check_os {va : Option Addr} {n c : Nat} (h : OS w wr s a b K (.slice va n c) B els mb) {e : Int} (hc : chk K n B = e) : Calls Try.prog 8 #[.agg #[.int .i64 K, .slice va n c, .string B]] wr fun en w' => en = .returned (.int .i64 e) ∧ OS w w' s a b K (.slice va n c) B els mb := by
  refine (check_any wr K va n c B).mono ?_
  rintro en w' ⟨rfl, h1⟩
  exact ⟨by rw [hc], h.calm h1⟩
theorem OS.setIds (h : OS w wr s a b K v B els mb) {v' : Value} {els' : List (List UInt8)} (h1 : Own wr v' els') (h2 : ∀ y, v'.ownBlock = some y → w.heap.size + 1 < y ∧ y ≠ mb) : OS w (wr.setCell ⟨mb, 1, none⟩ v') s a b K v' B els' mb := by
  have hl := h.lt
  have hk : Keep (fun y => y = mb) wr (wr.setCell ⟨mb, 1, none⟩ v') := (Keep.refl _ _).setCell _ _ (fun _ => rfl)
  exact ⟨h.r.keep hk (fun e => by omega), hk.get h.rv (fun e => by omega), by rw [block_set h.m]; rfl, h1.keep hk (fun y hy e => (h2 y hy).2 e), h2, h.keep.setCell _ _ (fun e => by simp at e; omega), hl⟩
theorem OS.setBody (h : OS w wr s a b K v B els mb) (x : ByteArray) : OS w (wr.setCell ⟨mb, 2, none⟩ (.string x)) s a b K v x els mb := by
  have hl := h.lt
  have hk : Keep (fun y => y = mb) wr (wr.setCell ⟨mb, 2, none⟩ (.string x)) := (Keep.refl _ _).setCell _ _ (fun _ => rfl)
  exact ⟨h.r.keep hk (fun e => by omega), hk.get h.rv (fun e => by omega), by rw [block_set h.m]; rfl, h.own.keep hk (fun y hy e => (h.new y hy).2 e), h.new, h.keep.setCell _ _ (fun e => by simp at e; omega), hl⟩
end
set_option maxRecDepth 100000 in
theorem of_short (w : World) (s : ByteArray) (h : s.size ≤ 1024) (n a1 : Nat) (b1 : Int) (hv : rnum s 0 0 1 = (n, a1, b1)) (hb : b1 ≠ 0) : Calls Try.prog 10 #[.string s] w fun e w' => e = .returned (mz b1) ∧ Keep (fun _ => False) w w' := by
  have Hv : Hid _ := hv
  have hb' : (b1 != 0) = true := by simpa using hb
  clear hv hb
  go_enter Try.func10, Try.ntmps10
  go_wp2_with (first | (go_at_call 24; refine (open_any _ s (by unfold maxLen; omega)).mono ?_; rintro e w1 ⟨rfl, h1, k1⟩; rw [size_alloc] at h1; have H1 : Hid _ := h1; have K1 : Hid _ := k1; clear h1 k1) | (go_at_call 25; refine (rnum_v _ _ s 0 0 1 _ _ _ H1.out Hv.out).mono ?_; rintro e w2 ⟨rfl, h1, k1⟩; have HS : Hid _ := os_start (n := n) K1.out h1 k1; clear h1 k1; obtain ⟨g0, g1, g2, f1, f2⟩ := HS.out.cells) | (go_at_call 26; refine (err_any _ _ s _ _ HS.out.r).mono ?_; rintro e w3 ⟨rfl, rfl⟩) | (go_at_call 11; refine (has_any _ _).mono ?_; rw [Hk.out]; rintro e w9 ⟨rfl, rfl⟩) | (refine wl_storeRow info_msg rfl rfl rfl rfl rfl rfl (by simp [Value.oneCell']) HS.out.rv rfl ?_) | (refine wl_storeRow info_msg rfl rfl rfl rfl rfl rfl (by simp [Value.oneCell']) HE.out.rv rfl ?_) | (go_at_call 27; refine (list_os HS.out Hn.out).mono ?_; rintro e w4 ⟨va, vc, rfl, h1⟩; have HL : Hid _ := h1; clear h1; obtain ⟨g0, g1, g2, f1, f2⟩ := HL.out.1.cells) | (go_at_call 28; refine (text_os HS.out Ht.out).mono ?_; rintro e w4 ⟨rfl, h1⟩; have HL : Hid _ := h1; clear h1; obtain ⟨g0, g1, g2, f1, f2⟩ := HL.out.cells) | (go_at_call 29; refine (end_os HS.out He.out).mono ?_; rintro e w5 ⟨rfl, h1⟩; have HE : Hid _ := h1; clear h1; obtain ⟨g0, g1, g2, f1, f2⟩ := HE.out.cells) | (go_at_call 8; refine (check_os HE.out Hc.out).mono ?_; rintro e w6 ⟨rfl, h1⟩; have HE : Hid _ := h1; clear h1; obtain ⟨g0, g1, g2, f1, f2⟩ := HE.out.cells))
  refine bodyPost_ret (res_me rfl _ _ w.heap.size #[.int .i64 0, .slice none 0 0, .string ByteArray.empty] rfl rfl (setRow_heap _ _ _ _ _ _ HS.out.rv) _ rfl) rfl ?_
  exact ⟨rfl, HS.out.keep.setRow _ _ (fun h => by omega)⟩
set_option maxRecDepth 100000 in
theorem of_kind (w : World) (s : ByteArray) (h : s.size ≤ 1024) (n a1 : Nat) (hv : rnum s 0 0 1 = (n, a1, 0)) (hk : knd n = 0) : Calls Try.prog 10 #[.string s] w fun e w' => e = .returned (mz 10) ∧ Keep (fun _ => False) w w' := by
  have Hv : Hid _ := hv
  have Hk : Hid _ := hk
  clear hv hk
  go_enter Try.func10, Try.ntmps10
  go_wp2_with (first | (go_at_call 24; refine (open_any _ s (by unfold maxLen; omega)).mono ?_; rintro e w1 ⟨rfl, h1, k1⟩; rw [size_alloc] at h1; have H1 : Hid _ := h1; have K1 : Hid _ := k1; clear h1 k1) | (go_at_call 25; refine (rnum_v _ _ s 0 0 1 _ _ _ H1.out Hv.out).mono ?_; rintro e w2 ⟨rfl, h1, k1⟩; have HS : Hid _ := os_start (n := n) K1.out h1 k1; clear h1 k1; obtain ⟨g0, g1, g2, f1, f2⟩ := HS.out.cells) | (go_at_call 26; refine (err_any _ _ s _ _ HS.out.r).mono ?_; rintro e w3 ⟨rfl, rfl⟩) | (go_at_call 11; refine (has_any _ _).mono ?_; rw [Hk.out]; rintro e w9 ⟨rfl, rfl⟩) | (refine wl_storeRow info_msg rfl rfl rfl rfl rfl rfl (by simp [Value.oneCell']) HS.out.rv rfl ?_) | (refine wl_storeRow info_msg rfl rfl rfl rfl rfl rfl (by simp [Value.oneCell']) HE.out.rv rfl ?_) | (go_at_call 27; refine (list_os HS.out Hn.out).mono ?_; rintro e w4 ⟨va, vc, rfl, h1⟩; have HL : Hid _ := h1; clear h1; obtain ⟨g0, g1, g2, f1, f2⟩ := HL.out.1.cells) | (go_at_call 28; refine (text_os HS.out Ht.out).mono ?_; rintro e w4 ⟨rfl, h1⟩; have HL : Hid _ := h1; clear h1; obtain ⟨g0, g1, g2, f1, f2⟩ := HL.out.cells) | (go_at_call 29; refine (end_os HS.out He.out).mono ?_; rintro e w5 ⟨rfl, h1⟩; have HE : Hid _ := h1; clear h1; obtain ⟨g0, g1, g2, f1, f2⟩ := HE.out.cells) | (go_at_call 8; refine (check_os HE.out Hc.out).mono ?_; rintro e w6 ⟨rfl, h1⟩; have HE : Hid _ := h1; clear h1; obtain ⟨g0, g1, g2, f1, f2⟩ := HE.out.cells))
  refine bodyPost_ret (res_me rfl _ _ w.heap.size #[.int .i64 0, .slice none 0 0, .string ByteArray.empty] rfl rfl (setRow_heap _ _ _ _ _ _ HS.out.rv) _ rfl) rfl ?_
  exact ⟨rfl, HS.out.keep.setRow _ _ (fun h => by omega)⟩
end Ms
end Go.Proofs.Ythllhjdaknmlbaa
