/-
  header.Put. header.Ident. The door 'awake' of petrellaw08. The plain law of 'Ahead': an order.
-/
import Derived.Test.YthllhjdaknmlbaaDoorHd3
import Derived.Test.YthllhjdaknmlbaaDoorGOc
import Derived.Test.YthllhjdaknmlbaaDoorGRd
import Derived.Test.YthllhjdaknmlbaaDoorGSh
import Derived.Test.YthllhjdaknmlbaaDoorGOp
set_option linter.unusedVariables false
set_option linter.unusedSimpArgs false

namespace Go.Proofs.YthllhjdaknmlbaaDoor
open Go.RowKit
namespace Txt
section
variable {P : Program} {ops : Array Oper} {S : World → Prop} {o : Oper} {rest : List Oper} {ts : List Nat} {a : Act} {w : World} {Q : Act → World → Prop}
/-- A conversion that reads memory. -/
theorem tl_convS (hw : Region.wanted o (yielded ops a.tmps) = true) {t1 t2 : TypeId} {x : Operand} (ho : o.op = .convert t1 t2 x) {u v : Value} (hx : a.eval x = u) (h : ∀ w2, S w2 → (convert t1 t2 u).run P w2 = .ok v w2) (k : wpTG P ops S Q rest ts (a.put o.dst v) w) : wpTG P ops S Q (o :: rest) (2 :: ts) a w :=
  tl_readS hw (fun w2 hs => by
    unfold execOp
    simp only [ho, hx, Sem.run_bind, h w2 hs, Result.andThen_ok, Sem.run_pure]) k
end
end Txt
namespace Hd
open Oct Ids Gn OctW
open OctRd (be_len)
open Mem (M blk)
open Tp (tk)

theorem tk_len {T : ByteArray} (h : tk T ≠ 0) : T.size ≤ 12 := by
  have : ¬ (T.size < 2 ∨ 12 < T.size ∨ (T.data.toList.getD (T.size - 1) 0).toNat = 45) := fun e => h (Tp.tk_f (by unfold Tp.fm; rw [if_pos e]))
  omega
/-- What of a header that may be. -/
theorem ck_ok {n : Nat} {l : List (List UInt8)} {G : Int} {T : ByteArray} {A Q Z : Int} (h : ck n l G T A Q Z = 0) : n ≤ 4 ∧ isL l = true ∧ (1 ≤ G ∧ G ≤ 1073741824) ∧ (n == 0) = (G == 1) ∧ tk T ≠ 0 ∧ (0 ≤ A ∧ A ≤ 255) ∧ (1 ≤ Q ∧ Q ≤ 1073741824) ∧ (1 ≤ Z ∧ Z ≤ 512) := by
  unfold ck kl at h
  simp only [fb] at h
  repeat' split at h
  all_goals first | omega | skip
  rename_i h1 h2 h3 h4 h5 h6 h7 h8
  simp [k1, k3, k4, k5, k6, k7, k8] at h1 h2 h3 h4 h5 h6 h7 h8
  refine ⟨by omega, by simpa using h2, by omega, by simpa using h4, h5, by omega, by omega, by omega⟩
/-- The bytes of a header. -/
def hb (n : Nat) (l : List (List UInt8)) (G : Int) (T : ByteArray) (A Q Z : Int) (m : List UInt8) : List UInt8 :=
  be 1 n ++ l.flatten ++ be 4 G ++ be 1 T.size ++ T.data.toList ++ be 1 A ++ be 4 Q ++ be 2 Z ++ m
/-- What 'Put' answers. -/
def pv (n : Nat) (l : List (List UInt8)) (G : Int) (T : ByteArray) (A Q Z : Int) (m : List UInt8) : ByteArray := if ck n l G T A Q Z = 0 then ⟨(hb n l G T A Q Z m).toArray⟩ else ByteArray.empty
set_option maxRecDepth 100000 in
set_option maxHeartbeats 1000000 in
theorem put_bad (w : World) (a : Option Addr) (n c : Nat) (l : List (List UInt8)) (G : Int) (T : ByteArray) (A Q Z : Int) (m : List UInt8) (h : At w a n l) (hm : m.length = 32) (hn : n ≤ 1000000) (hT : T.size ≤ maxLen) (v : Int) (hv : ck n l G T A Q Z = v) (hv0 : v ≠ 0) :
    Calls Tryd.prog 28 #[.agg (hd (.slice a n c) G T A Q Z m).toArray] w fun e w' => e = .returned (.tuple #[.string ByteArray.empty, .int .i64 v]) ∧ Keep (fun _ => False) w w' := by
  have h' : (v != 0) = true := by simpa using hv0
  have A1 : Hid (At w a n l) := h
  have Hv : Hid _ := hv
  have Hm : Hid (m.length = 32) := hm
  have HTz : Hid (T.size ≤ maxLen) := hT
  have HM : Hid (M (fun _ => False) w _ [blk w.heap.size (.cells (hd (.slice a n c) G T A Q Z m).toArray 26)]) := (M.start _ w).alloc _ rfl
  generalize hX : (hd (.slice a n c) G T A Q Z m).toArray = X at HM ⊢
  have HX : Hid ((hd (.slice a n c) G T A Q Z m).toArray = X) := hX
  clear h hv hX hm hT hv0
  go_enter Tryd.func28, Tryd.ntmps28
  go_wp2_with (first | (go_at_call 26; refine (check_any _ a n c l G T A Q Z m (A1.out.calm HM.out.keep) Hm.out (by omega) HTz.out v Hv.out).mono ?_; rintro e w1 ⟨rfl, k1⟩; have HM : Hid _ := HM.out.calm k1; clear k1) | ((with_reducible refine at_load 26 ?_); refine St.wl_load tyH (by rfl) rfl rfl (h_at HM.out 0 rfl HX.out Hm.out).all (hd_len _ _ _ _ _ _ _ Hm.out) ?_; simp only [Act.put, List.setIfInBounds_toArray, List.set_cons_zero, List.set_cons_succ]))
  go_ret2
  exact ⟨rfl, HM.out.keep⟩
set_option hygiene false in
set_option maxHeartbeats 4000000 in
set_option maxRecDepth 100000 in
theorem put_ok (w : World) (a : Option Addr) (n c : Nat) (l : List (List UInt8)) (G : Int) (T : ByteArray) (A Q Z : Int) (m : List UInt8) (h : At w a n l) (hm : m.length = 32) (hv : ck n l G T A Q Z = 0) :
    Calls Tryd.prog 28 #[.agg (hd (.slice a n c) G T A Q Z m).toArray] w fun e w' => e = .returned (.tuple #[.string ⟨(hb n l G T A Q Z m).toArray⟩, .int .i64 0]) ∧ Keep (fun _ => False) w w' := by
  obtain ⟨hn4, _, hG, _, htk, hA, hQ, hZ⟩ := ck_ok hv
  have hT12 := tk_len htk
  have A1 : Hid (At w a n l) := h
  have Hv : Hid _ := hv
  have Hm : Hid (m.length = 32) := hm
  have HTz : Hid (T.size ≤ maxLen) := (by unfold maxLen; omega : T.size ≤ maxLen)
  have HM : Hid (M (fun _ => False) w _ [blk w.heap.size (.cells (hd (.slice a n c) G T A Q Z m).toArray 26)]) := (M.start _ w).alloc _ rfl
  generalize hX : (hd (.slice a n c) G T A Q Z m).toArray = X at HM ⊢
  have HX : Hid ((hd (.slice a n c) G T A Q Z m).toArray = X) := hX
  have Hfl : Hid (l.flatten.length = 32 * n) := (by rw [flat_len l h.size, h.len] : l.flatten.length = 32 * n)
  have Htd : Hid (T.data.toList.length = T.size) := (rfl : T.data.toList.length = T.size)
  clear h hv hX hm htk
  go_enter Tryd.func28, Tryd.ntmps28
  go_wp2_with (first | (go_at_call 26; refine (check_any _ a n c l G T A Q Z m (A1.out.calm HM.out.keep) Hm.out (by omega) HTz.out 0 Hv.out).mono ?_; rintro e w1 ⟨rfl, k1⟩; have HM : Hid _ := HM.out.calm k1; clear k1) | ((with_reducible refine at_load 26 ?_); refine St.wl_load tyH (by rfl) rfl rfl (h_at HM.out 0 rfl HX.out Hm.out).all (hd_len _ _ _ _ _ _ _ Hm.out) ?_; simp only [Act.put, List.setIfInBounds_toArray, List.set_cons_zero, List.set_cons_succ]))
  refine Txt.wp_region_text (fun w' => HAt w' w.heap.size (.slice a n c) G T A Q Z m) [4, 0, 2, 0, 4, 0] (by kernel_rfl) (by kernel_rfl) (h_at HM.out.drew 0 rfl HX.out Hm.out) ?_
  have HM : Hid _ := HM.out.drew
  (repeat (first | (refine Txt.tl_pure (v := ?_) (by rfl) ?_ ?_; rotate_left; (focus (intro _; go_simp; try with_reducible rfl)); simp only [Act.put, List.setIfInBounds_toArray, List.set_cons_zero, List.set_cons_succ]) | (refine Txt.tl_skip (by rfl) (by first | trivial | exact HS.out) ?_; simp only [Act.put, List.setIfInBounds_toArray, List.set_cons_zero, List.set_cons_succ]) | (refine Txt.tl_load (v := ?_) (by rfl) (by rfl) (by rfl) (by kernel_rfl) ?_ ?_; rotate_left; (focus (first | assumption | (go_simp; done) | (go_simp; with_reducible rfl))); simp only [Act.put, List.setIfInBounds_toArray, List.set_cons_zero, List.set_cons_succ]) | (refine Txt.tl_loadB (v := ?_) (by rfl) (by rfl) (by rfl) (by kernel_rfl) ?_ ?_; rotate_left; (focus assumption); simp only [Act.put, List.setIfInBounds_toArray, List.set_cons_zero, List.set_cons_succ])))
  refine Txt.tl_call Tryd.func38 (by kernel_rfl) (by kernel_rfl) (by rfl) (by rfl) (by rfl) (M.new HM.out rfl) ?_
  rintro e w2 ⟨rfl, h1⟩
  have HM : Hid _ := h1
  clear h1
  refine ⟨_, rfl, h_at HM.out 0 rfl HX.out Hm.out, ?_⟩
  simp only [Act.put, List.setIfInBounds_toArray, List.set_cons_zero, List.set_cons_succ]
  (repeat (first | (refine Txt.tl_pure (v := ?_) (by rfl) ?_ ?_; rotate_left; (focus (intro _; go_simp; try with_reducible rfl)); simp only [Act.put, List.setIfInBounds_toArray, List.set_cons_zero, List.set_cons_succ]) | (refine Txt.tl_skip (by rfl) (by first | trivial | exact HS.out) ?_; simp only [Act.put, List.setIfInBounds_toArray, List.set_cons_zero, List.set_cons_succ]) | (refine Txt.tl_load (v := ?_) (by rfl) (by rfl) (by rfl) (by kernel_rfl) ?_ ?_; rotate_left; (focus (first | assumption | (go_simp; done) | (go_simp; with_reducible rfl))); simp only [Act.put, List.setIfInBounds_toArray, List.set_cons_zero, List.set_cons_succ]) | (refine Txt.tl_loadB (v := ?_) (by rfl) (by rfl) (by rfl) (by kernel_rfl) ?_ ?_; rotate_left; (focus assumption); simp only [Act.put, List.setIfInBounds_toArray, List.set_cons_zero, List.set_cons_succ])))
  refine Txt.tl_loadS (v := .slice a n c) (by rfl) (by rfl) (by rfl) (by kernel_rfl) (fun _ h => h.cells.1) ?_
  simp only [Act.put, List.setIfInBounds_toArray, List.set_cons_zero, List.set_cons_succ]
  (repeat (first | (refine Txt.tl_pure (v := ?_) (by rfl) ?_ ?_; rotate_left; (focus (intro _; go_simp; try with_reducible rfl)); simp only [Act.put, List.setIfInBounds_toArray, List.set_cons_zero, List.set_cons_succ]) | (refine Txt.tl_skip (by rfl) (by first | trivial | exact HS.out) ?_; simp only [Act.put, List.setIfInBounds_toArray, List.set_cons_zero, List.set_cons_succ]) | (refine Txt.tl_load (v := ?_) (by rfl) (by rfl) (by rfl) (by kernel_rfl) ?_ ?_; rotate_left; (focus (first | assumption | (go_simp; done) | (go_simp; with_reducible rfl))); simp only [Act.put, List.setIfInBounds_toArray, List.set_cons_zero, List.set_cons_succ]) | (refine Txt.tl_loadB (v := ?_) (by rfl) (by rfl) (by rfl) (by kernel_rfl) ?_ ?_; rotate_left; (focus assumption); simp only [Act.put, List.setIfInBounds_toArray, List.set_cons_zero, List.set_cons_succ])))
  refine Txt.tl_call Tryd.func39 (by kernel_rfl) (by kernel_rfl) (by rfl) (by rfl) (by rfl) (M.wnum HM.out 1 rfl n 1 (by omega) (by omega) (by omega) (by simp)) ?_
  rintro e w3 ⟨rfl, sv3, h1⟩
  have HM : Hid _ := h1
  clear h1
  refine ⟨_, rfl, h_at HM.out 0 rfl HX.out Hm.out, ?_⟩
  simp only [Act.put, List.setIfInBounds_toArray, List.set_cons_zero, List.set_cons_succ]
  (repeat (first | (refine Txt.tl_pure (v := ?_) (by rfl) ?_ ?_; rotate_left; (focus (intro _; go_simp; try with_reducible rfl)); simp only [Act.put, List.setIfInBounds_toArray, List.set_cons_zero, List.set_cons_succ]) | (refine Txt.tl_skip (by rfl) (by first | trivial | exact HS.out) ?_; simp only [Act.put, List.setIfInBounds_toArray, List.set_cons_zero, List.set_cons_succ]) | (refine Txt.tl_load (v := ?_) (by rfl) (by rfl) (by rfl) (by kernel_rfl) ?_ ?_; rotate_left; (focus (first | assumption | (go_simp; done) | (go_simp; with_reducible rfl))); simp only [Act.put, List.setIfInBounds_toArray, List.set_cons_zero, List.set_cons_succ]) | (refine Txt.tl_loadB (v := ?_) (by rfl) (by rfl) (by rfl) (by kernel_rfl) ?_ ?_; rotate_left; (focus assumption); simp only [Act.put, List.setIfInBounds_toArray, List.set_cons_zero, List.set_cons_succ])))
  refine Txt.tl_nil ?_
  obtain ⟨bw, hbw⟩ : ∃ b, w1.heap.size = b := ⟨_, rfl⟩
  have hbd : w1.drew.heap.size = bw := hbw
  (try rw [hbd] at HM)
  (try rw [hbw] at HM)
  (try rw [hbd])
  (try rw [hbw])
  clear hbw hbd
  have q0 := (h_at HM.out 0 rfl HX.out Hm.out).cells.1
  go_wp2
  go_loopw [21, 7] (fun i _ wq => ∃ (k : Nat) (sv : Value), k ≤ n ∧ i = .int .i64 k ∧ M (fun _ => False) w wq [blk w.heap.size (.cells X 26), Mem.wr bw (be 1 n ++ (l.take k).flatten) sv]) (fun i _ _ => n - (intOf i).toNat)
  case atStart => exact ⟨0, sv3, Nat.zero_le _, rfl, by have := HM.out; simpa using this⟩
  case round =>
    obtain ⟨k, sv, hk, rfl, hM⟩ := hrel
    have HM : Hid _ := hM
    clear hM
    by_cases hlt : k < n
    · obtain ⟨x, hx⟩ : ∃ x, l[k]? = some x := ⟨_, List.getElem?_eq_getElem (by rw [A1.out.len]; omega)⟩
      obtain ⟨g, off, ha, hg, hr⟩ : ∃ b off, a = some ⟨b, off, none⟩ ∧ b < w.heap.size ∧ ∀ i x, l[i]? = some x → w.rangeAt b (off + i * 32) (x.map bv) := by rcases A1.out.lay with e | e; omega; exact e
      have lx := A1.out.size x (List.mem_of_getElem? hx)
      subst ha
      have Hld : Hid _ := HM.out.keep.range hg (fun h => h) (hr k x hx)
      have Lx : Hid _ := lx
      have hcv := conv_id (wr.alloc (.cells (x.map bv).toArray 24)) wr.heap.size 0 x lx 32 (range_new wr _ _)
      have Hx : Hid _ := hx
      have hfl := flat_take l k A1.out.size (by rw [A1.out.len]; omega)
      have Hln : Hid ((be 1 n ++ (l.take k).flatten).length + (⟨x.toArray⟩ : ByteArray).size ≤ 1000000000) := by
        show (be 1 n ++ (l.take k).flatten).length + (⟨x.toArray⟩ : ByteArray).size ≤ 1000000000
        rw [List.length_append, hfl, Byt.arr_size, lx, be_len]
        omega
      clear hr hx hg lx hfl
      go_wp2_with (first | (refine Ids.wl_load rfl rfl rfl Lx.out Hld.out ?_; simp only [Act.put, List.setIfInBounds_toArray, List.set_cons_zero, List.set_cons_succ]) | (refine wl_store_new rfl rfl rfl rfl rfl Lx.out rfl ?_) | (go_at_call 40; refine (M.wraw (HM.out.calm ((Keep.refl _ _).alloc _)) 1 rfl _ Hln.out).mono ?_; rintro e w5 ⟨rfl, sv5, h5⟩; have HM : Hid _ := h5; clear h5))
      go_roundw
      case rel => exact ⟨k + 1, sv5, by omega, rfl, by rw [take_flat l k x Hx.out, ← List.append_assoc]; exact HM.out⟩
      case measure => simp [intOf]; omega
    · obtain rfl : k = n := by omega
      have HM : Hid (M (fun _ => False) w wr [blk w.heap.size (.cells X 26), Mem.wr bw (be 1 k ++ l.flatten) sv]) := by have := HM.out; rwa [List.take_of_length_le (by rw [A1.out.len]; exact Nat.le_refl _)] at this
      go_wp2
      refine Txt.wp_region_text (fun w' => HAt w' w.heap.size (.slice a k c) G T A Q Z m) [0, 0, 1, 4, 0, 2, 0, 4, 0, 2, 4] (by kernel_rfl) (by kernel_rfl) (h_at HM.out.drew 0 rfl HX.out Hm.out) ?_
      have HM : Hid _ := HM.out.drew
      (repeat (first | (refine Txt.tl_pure (v := ?_) (by rfl) ?_ ?_; rotate_left; (focus (intro _; go_simp; try with_reducible rfl)); simp only [Act.put, List.setIfInBounds_toArray, List.set_cons_zero, List.set_cons_succ]) | (refine Txt.tl_load (v := .int .i64 G) (ty := 3) (by rfl) (by rfl) (by rfl) (by kernel_rfl) (h_at HM.out 0 rfl HX.out Hm.out).cells.2.1 ?_; simp only [Act.put, List.setIfInBounds_toArray, List.set_cons_zero, List.set_cons_succ]) | (refine Txt.tl_load (v := .int .i64 A) (ty := 3) (by rfl) (by rfl) (by rfl) (by kernel_rfl) (h_at HM.out 0 rfl HX.out Hm.out).cells.2.2.2.1 ?_; simp only [Act.put, List.setIfInBounds_toArray, List.set_cons_zero, List.set_cons_succ]) | (refine Txt.tl_loadS (v := .string T) (ty := 9) (by rfl) (by rfl) (by rfl) (by kernel_rfl) (fun _ h => h.cells.2.2.1) ?_; simp only [Act.put, List.setIfInBounds_toArray, List.set_cons_zero, List.set_cons_succ]) | (refine Txt.tl_loadS (v := .int .i64 Q) (ty := 3) (by rfl) (by rfl) (by rfl) (by kernel_rfl) (fun _ h => h.cells.2.2.2.2.1) ?_; simp only [Act.put, List.setIfInBounds_toArray, List.set_cons_zero, List.set_cons_succ]) | (refine Txt.tl_loadS (v := .int .i64 Z) (ty := 3) (by rfl) (by rfl) (by rfl) (by kernel_rfl) (fun _ h => h.cells.2.2.2.2.2) ?_; simp only [Act.put, List.setIfInBounds_toArray, List.set_cons_zero, List.set_cons_succ])))
      refine Txt.tl_call Tryd.func39 (by kernel_rfl) (by kernel_rfl) (by rfl) (by rfl) (by rfl) (M.wnum HM.out 1 rfl G 4 (by omega) (by omega) (by omega) (by (have q := Hfl.out; have q2 := Htd.out; (try simp only [List.length_append, be_len, Byt.arr_size, Hm.out]); omega))) ?_
      rintro e w6 ⟨rfl, sv6, h1⟩
      have HM : Hid _ := h1
      clear h1
      refine ⟨_, rfl, h_at HM.out 0 rfl HX.out Hm.out, ?_⟩
      simp only [Act.put, List.setIfInBounds_toArray, List.set_cons_zero, List.set_cons_succ]
      (repeat (first | (refine Txt.tl_pure (v := ?_) (by rfl) ?_ ?_; rotate_left; (focus (intro _; go_simp; try with_reducible rfl)); simp only [Act.put, List.setIfInBounds_toArray, List.set_cons_zero, List.set_cons_succ]) | (refine Txt.tl_load (v := .int .i64 G) (ty := 3) (by rfl) (by rfl) (by rfl) (by kernel_rfl) (h_at HM.out 0 rfl HX.out Hm.out).cells.2.1 ?_; simp only [Act.put, List.setIfInBounds_toArray, List.set_cons_zero, List.set_cons_succ]) | (refine Txt.tl_load (v := .int .i64 A) (ty := 3) (by rfl) (by rfl) (by rfl) (by kernel_rfl) (h_at HM.out 0 rfl HX.out Hm.out).cells.2.2.2.1 ?_; simp only [Act.put, List.setIfInBounds_toArray, List.set_cons_zero, List.set_cons_succ]) | (refine Txt.tl_loadS (v := .string T) (ty := 9) (by rfl) (by rfl) (by rfl) (by kernel_rfl) (fun _ h => h.cells.2.2.1) ?_; simp only [Act.put, List.setIfInBounds_toArray, List.set_cons_zero, List.set_cons_succ]) | (refine Txt.tl_loadS (v := .int .i64 Q) (ty := 3) (by rfl) (by rfl) (by rfl) (by kernel_rfl) (fun _ h => h.cells.2.2.2.2.1) ?_; simp only [Act.put, List.setIfInBounds_toArray, List.set_cons_zero, List.set_cons_succ]) | (refine Txt.tl_loadS (v := .int .i64 Z) (ty := 3) (by rfl) (by rfl) (by rfl) (by kernel_rfl) (fun _ h => h.cells.2.2.2.2.2) ?_; simp only [Act.put, List.setIfInBounds_toArray, List.set_cons_zero, List.set_cons_succ])))
      refine Txt.tl_call Tryd.func39 (by kernel_rfl) (by kernel_rfl) (by rfl) (by rfl) (by rfl) (M.wnum HM.out 1 rfl T.size 1 (by omega) (by omega) (by omega) (by (have q := Hfl.out; have q2 := Htd.out; (try simp only [List.length_append, be_len, Byt.arr_size, Hm.out]); omega))) ?_
      rintro e w6 ⟨rfl, sv6, h1⟩
      have HM : Hid _ := h1
      clear h1
      refine ⟨_, rfl, h_at HM.out 0 rfl HX.out Hm.out, ?_⟩
      simp only [Act.put, List.setIfInBounds_toArray, List.set_cons_zero, List.set_cons_succ]
      (repeat (first | (refine Txt.tl_pure (v := ?_) (by rfl) ?_ ?_; rotate_left; (focus (intro _; go_simp; try with_reducible rfl)); simp only [Act.put, List.setIfInBounds_toArray, List.set_cons_zero, List.set_cons_succ]) | (refine Txt.tl_load (v := .int .i64 G) (ty := 3) (by rfl) (by rfl) (by rfl) (by kernel_rfl) (h_at HM.out 0 rfl HX.out Hm.out).cells.2.1 ?_; simp only [Act.put, List.setIfInBounds_toArray, List.set_cons_zero, List.set_cons_succ]) | (refine Txt.tl_load (v := .int .i64 A) (ty := 3) (by rfl) (by rfl) (by rfl) (by kernel_rfl) (h_at HM.out 0 rfl HX.out Hm.out).cells.2.2.2.1 ?_; simp only [Act.put, List.setIfInBounds_toArray, List.set_cons_zero, List.set_cons_succ]) | (refine Txt.tl_loadS (v := .string T) (ty := 9) (by rfl) (by rfl) (by rfl) (by kernel_rfl) (fun _ h => h.cells.2.2.1) ?_; simp only [Act.put, List.setIfInBounds_toArray, List.set_cons_zero, List.set_cons_succ]) | (refine Txt.tl_loadS (v := .int .i64 Q) (ty := 3) (by rfl) (by rfl) (by rfl) (by kernel_rfl) (fun _ h => h.cells.2.2.2.2.1) ?_; simp only [Act.put, List.setIfInBounds_toArray, List.set_cons_zero, List.set_cons_succ]) | (refine Txt.tl_loadS (v := .int .i64 Z) (ty := 3) (by rfl) (by rfl) (by rfl) (by kernel_rfl) (fun _ h => h.cells.2.2.2.2.2) ?_; simp only [Act.put, List.setIfInBounds_toArray, List.set_cons_zero, List.set_cons_succ])))
      refine Txt.tl_call Tryd.func40 (by kernel_rfl) (by kernel_rfl) (by rfl) (by rfl) (by rfl) (M.wraw HM.out 1 rfl T (by (have q := Hfl.out; have q2 := Htd.out; (try simp only [List.length_append, be_len, Byt.arr_size, Hm.out]); omega))) ?_
      rintro e w6 ⟨rfl, sv6, h1⟩
      have HM : Hid _ := h1
      clear h1
      refine ⟨_, rfl, h_at HM.out 0 rfl HX.out Hm.out, ?_⟩
      simp only [Act.put, List.setIfInBounds_toArray, List.set_cons_zero, List.set_cons_succ]
      (repeat (first | (refine Txt.tl_pure (v := ?_) (by rfl) ?_ ?_; rotate_left; (focus (intro _; go_simp; try with_reducible rfl)); simp only [Act.put, List.setIfInBounds_toArray, List.set_cons_zero, List.set_cons_succ]) | (refine Txt.tl_load (v := .int .i64 G) (ty := 3) (by rfl) (by rfl) (by rfl) (by kernel_rfl) (h_at HM.out 0 rfl HX.out Hm.out).cells.2.1 ?_; simp only [Act.put, List.setIfInBounds_toArray, List.set_cons_zero, List.set_cons_succ]) | (refine Txt.tl_load (v := .int .i64 A) (ty := 3) (by rfl) (by rfl) (by rfl) (by kernel_rfl) (h_at HM.out 0 rfl HX.out Hm.out).cells.2.2.2.1 ?_; simp only [Act.put, List.setIfInBounds_toArray, List.set_cons_zero, List.set_cons_succ]) | (refine Txt.tl_loadS (v := .string T) (ty := 9) (by rfl) (by rfl) (by rfl) (by kernel_rfl) (fun _ h => h.cells.2.2.1) ?_; simp only [Act.put, List.setIfInBounds_toArray, List.set_cons_zero, List.set_cons_succ]) | (refine Txt.tl_loadS (v := .int .i64 Q) (ty := 3) (by rfl) (by rfl) (by rfl) (by kernel_rfl) (fun _ h => h.cells.2.2.2.2.1) ?_; simp only [Act.put, List.setIfInBounds_toArray, List.set_cons_zero, List.set_cons_succ]) | (refine Txt.tl_loadS (v := .int .i64 Z) (ty := 3) (by rfl) (by rfl) (by rfl) (by kernel_rfl) (fun _ h => h.cells.2.2.2.2.2) ?_; simp only [Act.put, List.setIfInBounds_toArray, List.set_cons_zero, List.set_cons_succ])))
      refine Txt.tl_nil ?_
      go_wp2
      refine Txt.wp_region_text (fun w' => HAt w' w.heap.size (.slice a k c) G T A Q Z m) [0, 0, 1, 4, 0, 2, 4, 0, 2, 4, 0, 0, 2, 4] (by kernel_rfl) (by kernel_rfl) (h_at HM.out.drew 0 rfl HX.out Hm.out) ?_
      have HM : Hid _ := HM.out.drew
      (repeat (first | (refine Txt.tl_pure (v := ?_) (by rfl) ?_ ?_; rotate_left; (focus (intro _; go_simp; try with_reducible rfl)); simp only [Act.put, List.setIfInBounds_toArray, List.set_cons_zero, List.set_cons_succ]) | (refine Txt.tl_load (v := .int .i64 G) (ty := 3) (by rfl) (by rfl) (by rfl) (by kernel_rfl) (h_at HM.out 0 rfl HX.out Hm.out).cells.2.1 ?_; simp only [Act.put, List.setIfInBounds_toArray, List.set_cons_zero, List.set_cons_succ]) | (refine Txt.tl_load (v := .int .i64 A) (ty := 3) (by rfl) (by rfl) (by rfl) (by kernel_rfl) (h_at HM.out 0 rfl HX.out Hm.out).cells.2.2.2.1 ?_; simp only [Act.put, List.setIfInBounds_toArray, List.set_cons_zero, List.set_cons_succ]) | (refine Txt.tl_loadS (v := .string T) (ty := 9) (by rfl) (by rfl) (by rfl) (by kernel_rfl) (fun _ h => h.cells.2.2.1) ?_; simp only [Act.put, List.setIfInBounds_toArray, List.set_cons_zero, List.set_cons_succ]) | (refine Txt.tl_loadS (v := .int .i64 Q) (ty := 3) (by rfl) (by rfl) (by rfl) (by kernel_rfl) (fun _ h => h.cells.2.2.2.2.1) ?_; simp only [Act.put, List.setIfInBounds_toArray, List.set_cons_zero, List.set_cons_succ]) | (refine Txt.tl_loadS (v := .int .i64 Z) (ty := 3) (by rfl) (by rfl) (by rfl) (by kernel_rfl) (fun _ h => h.cells.2.2.2.2.2) ?_; simp only [Act.put, List.setIfInBounds_toArray, List.set_cons_zero, List.set_cons_succ])))
      refine Txt.tl_call Tryd.func39 (by kernel_rfl) (by kernel_rfl) (by rfl) (by rfl) (by rfl) (M.wnum HM.out 1 rfl A 1 (by omega) (by omega) (by omega) (by (have q := Hfl.out; have q2 := Htd.out; (try simp only [List.length_append, be_len, Byt.arr_size, Hm.out]); omega))) ?_
      rintro e w6 ⟨rfl, sv6, h1⟩
      have HM : Hid _ := h1
      clear h1
      refine ⟨_, rfl, h_at HM.out 0 rfl HX.out Hm.out, ?_⟩
      simp only [Act.put, List.setIfInBounds_toArray, List.set_cons_zero, List.set_cons_succ]
      (repeat (first | (refine Txt.tl_pure (v := ?_) (by rfl) ?_ ?_; rotate_left; (focus (intro _; go_simp; try with_reducible rfl)); simp only [Act.put, List.setIfInBounds_toArray, List.set_cons_zero, List.set_cons_succ]) | (refine Txt.tl_load (v := .int .i64 G) (ty := 3) (by rfl) (by rfl) (by rfl) (by kernel_rfl) (h_at HM.out 0 rfl HX.out Hm.out).cells.2.1 ?_; simp only [Act.put, List.setIfInBounds_toArray, List.set_cons_zero, List.set_cons_succ]) | (refine Txt.tl_load (v := .int .i64 A) (ty := 3) (by rfl) (by rfl) (by rfl) (by kernel_rfl) (h_at HM.out 0 rfl HX.out Hm.out).cells.2.2.2.1 ?_; simp only [Act.put, List.setIfInBounds_toArray, List.set_cons_zero, List.set_cons_succ]) | (refine Txt.tl_loadS (v := .string T) (ty := 9) (by rfl) (by rfl) (by rfl) (by kernel_rfl) (fun _ h => h.cells.2.2.1) ?_; simp only [Act.put, List.setIfInBounds_toArray, List.set_cons_zero, List.set_cons_succ]) | (refine Txt.tl_loadS (v := .int .i64 Q) (ty := 3) (by rfl) (by rfl) (by rfl) (by kernel_rfl) (fun _ h => h.cells.2.2.2.2.1) ?_; simp only [Act.put, List.setIfInBounds_toArray, List.set_cons_zero, List.set_cons_succ]) | (refine Txt.tl_loadS (v := .int .i64 Z) (ty := 3) (by rfl) (by rfl) (by rfl) (by kernel_rfl) (fun _ h => h.cells.2.2.2.2.2) ?_; simp only [Act.put, List.setIfInBounds_toArray, List.set_cons_zero, List.set_cons_succ])))
      refine Txt.tl_call Tryd.func39 (by kernel_rfl) (by kernel_rfl) (by rfl) (by rfl) (by rfl) (M.wnum HM.out 1 rfl Q 4 (by omega) (by omega) (by omega) (by (have q := Hfl.out; have q2 := Htd.out; (try simp only [List.length_append, be_len, Byt.arr_size, Hm.out]); omega))) ?_
      rintro e w6 ⟨rfl, sv6, h1⟩
      have HM : Hid _ := h1
      clear h1
      refine ⟨_, rfl, h_at HM.out 0 rfl HX.out Hm.out, ?_⟩
      simp only [Act.put, List.setIfInBounds_toArray, List.set_cons_zero, List.set_cons_succ]
      (repeat (first | (refine Txt.tl_pure (v := ?_) (by rfl) ?_ ?_; rotate_left; (focus (intro _; go_simp; try with_reducible rfl)); simp only [Act.put, List.setIfInBounds_toArray, List.set_cons_zero, List.set_cons_succ]) | (refine Txt.tl_load (v := .int .i64 G) (ty := 3) (by rfl) (by rfl) (by rfl) (by kernel_rfl) (h_at HM.out 0 rfl HX.out Hm.out).cells.2.1 ?_; simp only [Act.put, List.setIfInBounds_toArray, List.set_cons_zero, List.set_cons_succ]) | (refine Txt.tl_load (v := .int .i64 A) (ty := 3) (by rfl) (by rfl) (by rfl) (by kernel_rfl) (h_at HM.out 0 rfl HX.out Hm.out).cells.2.2.2.1 ?_; simp only [Act.put, List.setIfInBounds_toArray, List.set_cons_zero, List.set_cons_succ]) | (refine Txt.tl_loadS (v := .string T) (ty := 9) (by rfl) (by rfl) (by rfl) (by kernel_rfl) (fun _ h => h.cells.2.2.1) ?_; simp only [Act.put, List.setIfInBounds_toArray, List.set_cons_zero, List.set_cons_succ]) | (refine Txt.tl_loadS (v := .int .i64 Q) (ty := 3) (by rfl) (by rfl) (by rfl) (by kernel_rfl) (fun _ h => h.cells.2.2.2.2.1) ?_; simp only [Act.put, List.setIfInBounds_toArray, List.set_cons_zero, List.set_cons_succ]) | (refine Txt.tl_loadS (v := .int .i64 Z) (ty := 3) (by rfl) (by rfl) (by rfl) (by kernel_rfl) (fun _ h => h.cells.2.2.2.2.2) ?_; simp only [Act.put, List.setIfInBounds_toArray, List.set_cons_zero, List.set_cons_succ])))
      refine Txt.tl_call Tryd.func39 (by kernel_rfl) (by kernel_rfl) (by rfl) (by rfl) (by rfl) (M.wnum HM.out 1 rfl Z 2 (by omega) (by omega) (by omega) (by (have q := Hfl.out; have q2 := Htd.out; (try simp only [List.length_append, be_len, Byt.arr_size, Hm.out]); omega))) ?_
      rintro e w6 ⟨rfl, sv6, h1⟩
      have HM : Hid _ := h1
      clear h1
      refine ⟨_, rfl, h_at HM.out 0 rfl HX.out Hm.out, ?_⟩
      simp only [Act.put, List.setIfInBounds_toArray, List.set_cons_zero, List.set_cons_succ]
      (repeat (first | (refine Txt.tl_pure (v := ?_) (by rfl) ?_ ?_; rotate_left; (focus (intro _; go_simp; try with_reducible rfl)); simp only [Act.put, List.setIfInBounds_toArray, List.set_cons_zero, List.set_cons_succ]) | (refine Txt.tl_load (v := .int .i64 G) (ty := 3) (by rfl) (by rfl) (by rfl) (by kernel_rfl) (h_at HM.out 0 rfl HX.out Hm.out).cells.2.1 ?_; simp only [Act.put, List.setIfInBounds_toArray, List.set_cons_zero, List.set_cons_succ]) | (refine Txt.tl_load (v := .int .i64 A) (ty := 3) (by rfl) (by rfl) (by rfl) (by kernel_rfl) (h_at HM.out 0 rfl HX.out Hm.out).cells.2.2.2.1 ?_; simp only [Act.put, List.setIfInBounds_toArray, List.set_cons_zero, List.set_cons_succ]) | (refine Txt.tl_loadS (v := .string T) (ty := 9) (by rfl) (by rfl) (by rfl) (by kernel_rfl) (fun _ h => h.cells.2.2.1) ?_; simp only [Act.put, List.setIfInBounds_toArray, List.set_cons_zero, List.set_cons_succ]) | (refine Txt.tl_loadS (v := .int .i64 Q) (ty := 3) (by rfl) (by rfl) (by rfl) (by kernel_rfl) (fun _ h => h.cells.2.2.2.2.1) ?_; simp only [Act.put, List.setIfInBounds_toArray, List.set_cons_zero, List.set_cons_succ]) | (refine Txt.tl_loadS (v := .int .i64 Z) (ty := 3) (by rfl) (by rfl) (by rfl) (by kernel_rfl) (fun _ h => h.cells.2.2.2.2.2) ?_; simp only [Act.put, List.setIfInBounds_toArray, List.set_cons_zero, List.set_cons_succ])))
      refine Txt.tl_convS (by rfl) (by rfl) (by rfl) (v := .string ⟨m.toArray⟩) (fun w2 h => conv_id w2 _ 6 m h.len _ h.commit) ?_
      simp only [Act.put, List.setIfInBounds_toArray, List.set_cons_zero, List.set_cons_succ]
      (repeat (first | (refine Txt.tl_pure (v := ?_) (by rfl) ?_ ?_; rotate_left; (focus (intro _; go_simp; try with_reducible rfl)); simp only [Act.put, List.setIfInBounds_toArray, List.set_cons_zero, List.set_cons_succ]) | (refine Txt.tl_load (v := .int .i64 G) (ty := 3) (by rfl) (by rfl) (by rfl) (by kernel_rfl) (h_at HM.out 0 rfl HX.out Hm.out).cells.2.1 ?_; simp only [Act.put, List.setIfInBounds_toArray, List.set_cons_zero, List.set_cons_succ]) | (refine Txt.tl_load (v := .int .i64 A) (ty := 3) (by rfl) (by rfl) (by rfl) (by kernel_rfl) (h_at HM.out 0 rfl HX.out Hm.out).cells.2.2.2.1 ?_; simp only [Act.put, List.setIfInBounds_toArray, List.set_cons_zero, List.set_cons_succ]) | (refine Txt.tl_loadS (v := .string T) (ty := 9) (by rfl) (by rfl) (by rfl) (by kernel_rfl) (fun _ h => h.cells.2.2.1) ?_; simp only [Act.put, List.setIfInBounds_toArray, List.set_cons_zero, List.set_cons_succ]) | (refine Txt.tl_loadS (v := .int .i64 Q) (ty := 3) (by rfl) (by rfl) (by rfl) (by kernel_rfl) (fun _ h => h.cells.2.2.2.2.1) ?_; simp only [Act.put, List.setIfInBounds_toArray, List.set_cons_zero, List.set_cons_succ]) | (refine Txt.tl_loadS (v := .int .i64 Z) (ty := 3) (by rfl) (by rfl) (by rfl) (by kernel_rfl) (fun _ h => h.cells.2.2.2.2.2) ?_; simp only [Act.put, List.setIfInBounds_toArray, List.set_cons_zero, List.set_cons_succ])))
      refine Txt.tl_call Tryd.func40 (by kernel_rfl) (by kernel_rfl) (by rfl) (by rfl) (by rfl) (M.wraw HM.out 1 rfl ⟨m.toArray⟩ (by (have q := Hfl.out; have q2 := Htd.out; (try simp only [List.length_append, be_len, Byt.arr_size, Hm.out]); omega))) ?_
      rintro e w6 ⟨rfl, sv6, h1⟩
      have HM : Hid _ := h1
      clear h1
      refine ⟨_, rfl, h_at HM.out 0 rfl HX.out Hm.out, ?_⟩
      simp only [Act.put, List.setIfInBounds_toArray, List.set_cons_zero, List.set_cons_succ]
      (repeat (first | (refine Txt.tl_pure (v := ?_) (by rfl) ?_ ?_; rotate_left; (focus (intro _; go_simp; try with_reducible rfl)); simp only [Act.put, List.setIfInBounds_toArray, List.set_cons_zero, List.set_cons_succ]) | (refine Txt.tl_load (v := .int .i64 G) (ty := 3) (by rfl) (by rfl) (by rfl) (by kernel_rfl) (h_at HM.out 0 rfl HX.out Hm.out).cells.2.1 ?_; simp only [Act.put, List.setIfInBounds_toArray, List.set_cons_zero, List.set_cons_succ]) | (refine Txt.tl_load (v := .int .i64 A) (ty := 3) (by rfl) (by rfl) (by rfl) (by kernel_rfl) (h_at HM.out 0 rfl HX.out Hm.out).cells.2.2.2.1 ?_; simp only [Act.put, List.setIfInBounds_toArray, List.set_cons_zero, List.set_cons_succ]) | (refine Txt.tl_loadS (v := .string T) (ty := 9) (by rfl) (by rfl) (by rfl) (by kernel_rfl) (fun _ h => h.cells.2.2.1) ?_; simp only [Act.put, List.setIfInBounds_toArray, List.set_cons_zero, List.set_cons_succ]) | (refine Txt.tl_loadS (v := .int .i64 Q) (ty := 3) (by rfl) (by rfl) (by rfl) (by kernel_rfl) (fun _ h => h.cells.2.2.2.2.1) ?_; simp only [Act.put, List.setIfInBounds_toArray, List.set_cons_zero, List.set_cons_succ]) | (refine Txt.tl_loadS (v := .int .i64 Z) (ty := 3) (by rfl) (by rfl) (by rfl) (by kernel_rfl) (fun _ h => h.cells.2.2.2.2.2) ?_; simp only [Act.put, List.setIfInBounds_toArray, List.set_cons_zero, List.set_cons_succ])))
      refine Txt.tl_nil ?_
      go_wp2_with (first | (go_at_call 41; refine (M.wdone HM.out 1 rfl).mono ?_; rintro e w7 ⟨rfl, h7⟩; have HM : Hid _ := h7; clear h7))
      go_ret2
      have hbe : hb k l G T A Q Z m = be 1 k ++ (l.flatten ++ (be 4 G ++ (be 1 T.size ++ (T.data.toList ++ (be 1 A ++ (be 4 Q ++ (be 2 Z ++ m))))))) := by simp only [hb, List.append_assoc]
      rw [hbe]
      exact ⟨rfl, HM.out.keep⟩
theorem put_any (w : World) (a : Option Addr) (n c : Nat) (l : List (List UInt8)) (G : Int) (T : ByteArray) (A Q Z : Int) (m : List UInt8) (h : At w a n l) (hm : m.length = 32) (hn : n ≤ 1000000) (hT : T.size ≤ maxLen) :
    Calls Tryd.prog 28 #[.agg (hd (.slice a n c) G T A Q Z m).toArray] w fun e w' => e = .returned (.tuple #[.string (pv n l G T A Q Z m), .int .i64 (ck n l G T A Q Z)]) ∧ Keep (fun _ => False) w w' := by
  by_cases hc : ck n l G T A Q Z = 0
  · rw [show pv n l G T A Q Z m = ⟨(hb n l G T A Q Z m).toArray⟩ from if_pos hc, hc]
    exact put_ok w a n c l G T A Q Z m h hm hc
  · rw [show pv n l G T A Q Z m = ByteArray.empty from if_neg hc]
    exact put_bad w a n c l G T A Q Z m h hm hn hT _ rfl hc
end Hd
end Go.Proofs.YthllhjdaknmlbaaDoor


namespace Go.Proofs.YthllhjdaknmlbaaDoor
open Go.RowKit
namespace Hd
open Oct Ids Gn OctW
open Mem (M blk)

theorem hb_len (n : Nat) (l : List (List UInt8)) (G : Int) (T : ByteArray) (A Q Z : Int) (m : List UInt8) (hl : l.length = n) (h32 : ∀ x ∈ l, x.length = 32) (hm : m.length = 32) : (hb n l G T A Q Z m).length = 45 + 32 * n + T.size := by
  unfold hb
  have h1 : T.data.toList.length = T.size := rfl
  simp only [List.length_append, OctRd.be_len, flat_len l h32, hm, h1, hl]
  omega
/-- What 'Ident' answers. -/
def iv (n : Nat) (l : List (List UInt8)) (G : Int) (T : ByteArray) (A Q Z : Int) (m : List UInt8) : List UInt8 := if ck n l G T A Q Z = 0 then Sha.sum (hb n l G T A Q Z m) else Z32
set_option maxRecDepth 100000 in
set_option maxHeartbeats 1000000 in
theorem ident_ok (w : World) (hF : Sha.TabF w) (hK : Sha.TabK w) (a : Option Addr) (n c : Nat) (l : List (List UInt8)) (G : Int) (T : ByteArray) (A Q Z : Int) (m : List UInt8) (h : At w a n l) (hm : m.length = 32) (hv : ck n l G T A Q Z = 0) :
    Calls Tryd.prog 18 #[.agg (hd (.slice a n c) G T A Q Z m).toArray] w fun e w' => e = .returned (.tuple #[idv (Sha.sum (hb n l G T A Q Z m)), .int .i64 0]) ∧ Keep (fun _ => False) w w' := by
  obtain ⟨hn4, _, hG, _, htk, hA, hQ, hZ⟩ := ck_ok hv
  have hT12 := tk_len htk
  have hbl := hb_len n l G T A Q Z m h.len h.size hm
  have A1 : Hid (At w a n l) := h
  have HF : Hid (Sha.TabF w) := hF
  have HK : Hid (Sha.TabK w) := hK
  have Hm : Hid (m.length = 32) := hm
  have HP : Hid (∀ w, At w a n l → Calls Tryd.prog 28 #[.agg (hd (.slice a n c) G T A Q Z m).toArray] w fun e w' => e = .returned (.tuple #[.string ⟨(hb n l G T A Q Z m).toArray⟩, .int .i64 0]) ∧ Keep (fun _ => False) w w') := fun w h => put_ok w a n c l G T A Q Z m h hm hv
  obtain ⟨t, ht⟩ : ∃ t : ByteArray, (⟨(hb n l G T A Q Z m).toArray⟩ : ByteArray) = t := ⟨_, rfl⟩
  have hts : t.size ≤ 1000000 := by rw [← ht, Byt.arr_size]; omega
  have htd : t.data.toList = hb n l G T A Q Z m := by rw [← ht]
  rw [ht] at HP
  rw [← htd]
  have HT : Hid (t.size ≤ 1000000) := hts
  have HL : Hid (((Sha.sum t.data.toList).map bv).toArray.size = 32) := by show _ = _; rw [List.size_toArray, List.length_map, Sha.sum_len]
  have HM : Hid (M (fun _ => False) w _ [blk w.heap.size (.cells (hd (.slice a n c) G T A Q Z m).toArray 26), blk (w.heap.size + 1) (.cells z32 24)]) := ((M.start _ w).alloc (.cells (hd (.slice a n c) G T A Q Z m).toArray 26) rfl).alloc (.cells z32 24) (by simp)
  generalize hX : (hd (.slice a n c) G T A Q Z m).toArray = X at HM ⊢
  have HX : Hid ((hd (.slice a n c) G T A Q Z m).toArray = X) := hX
  clear h hX hm htk hv hF hK ht hts htd hbl
  go_enter Tryd.func18, Tryd.ntmps18
  go_wp2_with (first | ((with_reducible refine at_load 26 ?_); refine St.wl_load tyH (by rfl) rfl rfl (h_at HM.out 0 rfl HX.out Hm.out).all (hd_len _ _ _ _ _ _ _ Hm.out) ?_; simp only [Act.put, List.setIfInBounds_toArray, List.set_cons_zero, List.set_cons_succ]) | (refine St.wl_alloc tyI rfl rfl (by (try simp only [World.size_alloc]); rfl) ?_; simp only [Act.put, List.setIfInBounds_toArray, List.set_cons_zero, List.set_cons_succ]) | (go_at_call 28; refine (HP.out _ (A1.out.calm HM.out.keep)).mono ?_; rintro e w1 ⟨rfl, k1⟩; have HM : Hid _ := HM.out.calm k1; clear k1) | (go_at_call 29; refine (Sha.sum_any _ t HT.out (HF.out.keep HM.out.keep (fun e => e)) (HK.out.keep HM.out.keep (fun e => e))).mono ?_; rintro e w1 ⟨rfl, k1⟩; have HM : Hid _ := HM.out.calm k1; clear k1) | (refine St.wl_store tyI rfl rfl rfl rfl rfl HL.out (one_bv _) (HM.out.get 1 rfl) (by simp) ?_; have HM : Hid _ := HM.out.setr 1 rfl ((Sha.sum t.data.toList).map bv).toArray))
  refine bodyPost_ret (St.res2 tyI rfl _ _ _ _ HL.out rfl (HM.out.get 1 rfl) _ rfl) rfl ?_
  exact ⟨rfl, HM.out.keep⟩
set_option maxRecDepth 100000 in
set_option maxHeartbeats 1000000 in
theorem ident_bad (w : World) (a : Option Addr) (n c : Nat) (l : List (List UInt8)) (G : Int) (T : ByteArray) (A Q Z : Int) (m : List UInt8) (h : At w a n l) (hm : m.length = 32) (hn : n ≤ 1000000) (hT : T.size ≤ maxLen) (v : Int) (hv : ck n l G T A Q Z = v) (hv0 : v ≠ 0) :
    Calls Tryd.prog 18 #[.agg (hd (.slice a n c) G T A Q Z m).toArray] w fun e w' => e = .returned (.tuple #[idv Z32, .int .i64 v]) ∧ Keep (fun _ => False) w w' := by
  have h' : (v != 0) = true := by simpa using hv0
  have A1 : Hid (At w a n l) := h
  have Hm : Hid (m.length = 32) := hm
  have HP : Hid (∀ w, At w a n l → Calls Tryd.prog 28 #[.agg (hd (.slice a n c) G T A Q Z m).toArray] w fun e w' => e = .returned (.tuple #[.string ByteArray.empty, .int .i64 v]) ∧ Keep (fun _ => False) w w') := fun w h => put_bad w a n c l G T A Q Z m h hm hn hT v hv hv0
  have HM : Hid (M (fun _ => False) w _ [blk w.heap.size (.cells (hd (.slice a n c) G T A Q Z m).toArray 26), blk (w.heap.size + 1) (.cells z32 24)]) := ((M.start _ w).alloc (.cells (hd (.slice a n c) G T A Q Z m).toArray 26) rfl).alloc (.cells z32 24) (by simp)
  generalize hX : (hd (.slice a n c) G T A Q Z m).toArray = X at HM ⊢
  have HX : Hid ((hd (.slice a n c) G T A Q Z m).toArray = X) := hX
  clear h hX hm hv hT hv0
  go_enter Tryd.func18, Tryd.ntmps18
  go_wp2_with (first | ((with_reducible refine at_load 26 ?_); refine St.wl_load tyH (by rfl) rfl rfl (h_at HM.out 0 rfl HX.out Hm.out).all (hd_len _ _ _ _ _ _ _ Hm.out) ?_; simp only [Act.put, List.setIfInBounds_toArray, List.set_cons_zero, List.set_cons_succ]) | (refine St.wl_alloc tyI rfl rfl (by (try simp only [World.size_alloc]); rfl) ?_; simp only [Act.put, List.setIfInBounds_toArray, List.set_cons_zero, List.set_cons_succ]) | (refine St.wl_buildV (T := 24) (parts := #[]) rfl rfl (cs := z32) (by kernel_rfl) ?_; simp only [Act.put, List.setIfInBounds_toArray, List.set_cons_zero, List.set_cons_succ]) | (go_at_call 28; refine (HP.out _ (A1.out.calm HM.out.keep)).mono ?_; rintro e w1 ⟨rfl, k1⟩; have HM : Hid _ := HM.out.calm k1; clear k1) | (refine St.wl_store tyI rfl rfl rfl rfl rfl (cs := z32) rfl (one_bv (List.replicate 32 0)) (HM.out.get 1 rfl) rfl ?_; have HM : Hid _ := HM.out.setr 1 rfl z32))
  refine bodyPost_ret (St.res2 tyI rfl _ _ _ z32 rfl rfl (HM.out.get 1 rfl) _ rfl) rfl ?_
  exact ⟨rfl, HM.out.keep⟩
end Hd
end Go.Proofs.YthllhjdaknmlbaaDoor


namespace Go.Proofs.YthllhjdaknmlbaaDoor
open Go.RowKit
namespace Hd
open Oct Ids Gn OctW
open Mem (M blk)

/-- The bytes "ca". -/
def ca : ByteArray := ⟨#[99, 97]⟩
theorem awck : ck 0 [] 1 ca 0 1 1 = 0 := by decide
theorem nil_at (w : World) : At w none 0 [] := by
  refine ⟨rfl, fun x hx => absurd hx (by simp), ?_, ?_⟩ <;> simp
end Hd
end Go.Proofs.YthllhjdaknmlbaaDoor


namespace Go.Proofs.YthllhjdaknmlbaaDoor
open Go.RowKit
namespace Hd
open IdL (cmpL cmpL_anti cmpL_trans cmpL_refl cmpL_zero cmpL_rng)

theorem ah_iff (x : Int) (a : List UInt8) (y : Int) (b : List UInt8) : ah x a y b = true ↔ x < y ∨ (x = y ∧ cmpL a b < 0) := by
  unfold ah
  simp
theorem ah_anti (x : Int) (a : List UInt8) (y : Int) (b : List UInt8) (h : ah x a y b = true) : ah y b x a = false := by
  rw [ah_iff] at h
  rw [Bool.eq_false_iff, Ne, ah_iff]
  have := cmpL_anti a b
  omega
theorem ah_trans (x y z : Int) (a b c : List UInt8) (h : ah x a y b = true) (h2 : ah y b z c = true) : ah x a z c = true := by
  rw [ah_iff] at *
  have := cmpL_trans a b c
  omega
theorem ah_tot (x : Int) (a : List UInt8) (y : Int) (b : List UInt8) : (ah x a y b || ah y b x a) = !(x == y && a == b) := by
  have h1 := cmpL_anti a b
  by_cases e : x = y ∧ a = b
  · obtain ⟨rfl, rfl⟩ := e
    have h3 : ah x a x a = false := by rw [Bool.eq_false_iff, Ne, ah_iff, cmpL_refl]; omega
    simp [h3]
  · have h2 : ah x a y b = true ∨ ah y b x a = true := by
      rw [ah_iff, ah_iff]
      by_cases hx : x = y
      · have h4 : cmpL a b ≠ 0 := fun h => e ⟨hx, cmpL_zero _ _ h⟩
        omega
      · omega
    have h5 : (x == y && a == b) = false := by
      rw [Bool.eq_false_iff]
      intro h
      simp only [Bool.and_eq_true, beq_iff_eq] at h
      exact e h
    rw [h5]
    rcases h2 with h2 | h2 <;> simp [h2]
end Hd
end Go.Proofs.YthllhjdaknmlbaaDoor
