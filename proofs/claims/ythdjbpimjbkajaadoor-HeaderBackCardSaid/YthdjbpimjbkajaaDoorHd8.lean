/-
  header.id, header.Of.
-/
import Derived.Test.YthdjbpimjbkajaaDoorHd3
import Derived.Test.YthdjbpimjbkajaaDoorGId
import Derived.Test.YthdjbpimjbkajaaDoorGTx
import Derived.Sort.AtCall
set_option linter.unusedVariables false
set_option linter.unusedSimpArgs false
namespace Go.Proofs.YthdjbpimjbkajaaDoor
open Go.RowKit
namespace Hd
open Oct Ids Gn
open Mem (M blk rd ids)
open Ref (endv)

theorem at_call {P : Program} {f : Nat} {w : World} {Q : Ending → World → Prop} (args : Array Value) (h : Calls P f args w Q) : Calls P f args w Q := h
set_option maxRecDepth 100000 in
set_option maxHeartbeats 1000000 in
theorem id_any (w : World) (b : Nat) (s : ByteArray) (a : Nat) (bad : Int) (x : ByteArray) (a' : Nat) (b' : Int) (h : IsR w b s a bad) (hv : rraw s a bad 32 = (x, a', b')) :
    Calls Tryd.prog 48 #[.pointer (some ⟨b, 0, none⟩)] w fun e w' => e = .returned (idv (pad x.data.toList)) ∧ IsR w' b s a' b' ∧ Keep (fun k => k = b) w w' := by
  have hx : x.size ≤ 32 := by have := rraw_32 s a bad; rw [hv] at this; exact this
  have Hv : Hid _ := hv
  have Hpl : Hid ((pad x.data.toList).length = 32) := pad_len x.data.toList (by rw [Array.length_toList]; exact hx)
  have hbw := lt_of_block h.blk
  have HM : Hid (M (fun k => k = b) w _ [rd b s a bad, blk w.heap.size (.cells z32 23), blk (w.heap.size + 1) (.cells z32 23)]) := ((M.start1 (x := rd b s a bad) h (fun k hk => by cases hk; exact hbw)).alloc (.cells z32 23) rfl).alloc (.cells z32 23) (by simp)
  clear h hv
  go_enter Tryd.func48, Tryd.ntmps48
  go_wp2_with (first | (refine St.wl_alloc tyI rfl rfl (by (try simp only [World.size_alloc]); rfl) ?_; simp only [Act.put, List.setIfInBounds_toArray, List.set_cons_zero, List.set_cons_succ]) | ((fail_if_success go_not_at_region 2); refine Txt.wp_region_text (id := 2) (fun _ => True) [0, 0, 4, 4] (by kernel_rfl) (by kernel_rfl) trivial ?_; have HM : Hid _ := HM.out.drew; (repeat (first | (refine Txt.tl_pure (v := ?_) (by rfl) ?_ ?_; rotate_left; (focus (intro _; go_simp; try with_reducible rfl)); simp only [Act.put, List.setIfInBounds_toArray, List.set_cons_zero, List.set_cons_succ]) | (refine Txt.tl_skip (by rfl) (by first | trivial | exact HS.out) ?_; simp only [Act.put, List.setIfInBounds_toArray, List.set_cons_zero, List.set_cons_succ]) | (refine Txt.tl_load (v := ?_) (by rfl) (by rfl) (by rfl) (by kernel_rfl) ?_ ?_; rotate_left; (focus (first | assumption | (go_simp; done) | (go_simp; with_reducible rfl))); simp only [Act.put, List.setIfInBounds_toArray, List.set_cons_zero, List.set_cons_succ]) | (refine Txt.tl_loadB (v := ?_) (by rfl) (by rfl) (by rfl) (by kernel_rfl) ?_ ?_; rotate_left; (focus assumption); simp only [Act.put, List.setIfInBounds_toArray, List.set_cons_zero, List.set_cons_succ]))); refine Txt.tl_call Tryd.func49 (by kernel_rfl) (by kernel_rfl) (by rfl) (by rfl) (by rfl) (M.rraw HM.out 0 rfl Hv.out) ?_; rintro e w1 ⟨rfl, h1⟩; have HM : Hid _ := h1; clear h1; refine ⟨_, rfl, trivial, ?_⟩; simp only [Act.put, List.setIfInBounds_toArray, List.set_cons_zero, List.set_cons_succ]; (repeat (first | (refine Txt.tl_pure (v := ?_) (by rfl) ?_ ?_; rotate_left; (focus (intro _; go_simp; try with_reducible rfl)); simp only [Act.put, List.setIfInBounds_toArray, List.set_cons_zero, List.set_cons_succ]) | (refine Txt.tl_skip (by rfl) (by first | trivial | exact HS.out) ?_; simp only [Act.put, List.setIfInBounds_toArray, List.set_cons_zero, List.set_cons_succ]) | (refine Txt.tl_load (v := ?_) (by rfl) (by rfl) (by rfl) (by kernel_rfl) ?_ ?_; rotate_left; (focus (first | assumption | (go_simp; done) | (go_simp; with_reducible rfl))); simp only [Act.put, List.setIfInBounds_toArray, List.set_cons_zero, List.set_cons_succ]) | (refine Txt.tl_loadB (v := ?_) (by rfl) (by rfl) (by rfl) (by kernel_rfl) ?_ ?_; rotate_left; (focus assumption); simp only [Act.put, List.setIfInBounds_toArray, List.set_cons_zero, List.set_cons_succ]))); refine Txt.tl_loud (by rfl) ?_; refine wp_copy rfl rfl rfl hx (HM.out.get 2 rfl) ?_; intro w3 h3 k3; have HM : Hid (M (fun k => k = b) w w3 [rd b s a' b', blk w.heap.size (.cells z32 23), blk (w.heap.size + 1) (.cells ((pad x.data.toList).map bv).toArray 23)]) := HM.out.upd 2 rfl k3 (fun _ h => h) (y := blk (w.heap.size + 1) (.cells ((pad x.data.toList).map bv).toArray 23)) h3 (fun k hk => .inl hk); clear h3 k3; refine ⟨trivial, ?_⟩; simp only [Act.put, List.setIfInBounds_toArray, List.set_cons_zero, List.set_cons_succ]; (repeat (first | (refine Txt.tl_pure (v := ?_) (by rfl) ?_ ?_; rotate_left; (focus (intro _; go_simp; try with_reducible rfl)); simp only [Act.put, List.setIfInBounds_toArray, List.set_cons_zero, List.set_cons_succ]) | (refine Txt.tl_skip (by rfl) (by first | trivial | exact HS.out) ?_; simp only [Act.put, List.setIfInBounds_toArray, List.set_cons_zero, List.set_cons_succ]) | (refine Txt.tl_load (v := ?_) (by rfl) (by rfl) (by rfl) (by kernel_rfl) ?_ ?_; rotate_left; (focus (first | assumption | (go_simp; done) | (go_simp; with_reducible rfl))); simp only [Act.put, List.setIfInBounds_toArray, List.set_cons_zero, List.set_cons_succ]) | (refine Txt.tl_loadB (v := ?_) (by rfl) (by rfl) (by rfl) (by kernel_rfl) ?_ ?_; rotate_left; (focus assumption); simp only [Act.put, List.setIfInBounds_toArray, List.set_cons_zero, List.set_cons_succ]))); refine Txt.tl_nil ?_) | (refine St.wl_load tyI (by rfl) rfl rfl (HM.out.range 2 rfl) (by rw [List.length_map]; exact Hpl.out) ?_; simp only [Act.put, List.setIfInBounds_toArray, List.set_cons_zero, List.set_cons_succ]) | (refine St.wl_store tyI rfl rfl rfl rfl rfl (by rw [List.size_toArray, List.length_map]; exact Hpl.out) (one_bv _) (HM.out.get 1 rfl) (by simp) ?_; have HM : Hid _ := HM.out.setr 1 rfl ((pad x.data.toList).map bv).toArray))
  refine bodyPost_ret (St.res1 tyI rfl _ _ w.heap.size _ (by rw [List.size_toArray, List.length_map]; exact Hpl.out) rfl (HM.out.get 1 rfl)) rfl ?_
  exact ⟨rfl, HM.out.get 0 rfl, HM.out.keep⟩
section
variable {F : Nat → Prop} {w0 w : World} {l : List Mem.It}
theorem id_m (h : M F w0 w l) (i : Nat) {b : Nat} {s : ByteArray} {a : Nat} {bad : Int} (hi : l[i]? = some (rd b s a bad)) {x : ByteArray} {a' : Nat} {b' : Int} (hv : rraw s a bad 32 = (x, a', b')) {r : List UInt8} (hr : pad x.data.toList = r) :
    Calls Tryd.prog 48 #[.pointer (some ⟨b, 0, none⟩)] w fun e w' => e = .returned (idv r) ∧ M F w0 w' (l.set i (rd b s a' b')) := by
  subst hr
  refine (id_any w b s a bad x a' b' (h.get i hi) hv).mono ?_
  rintro e w' ⟨rfl, h1, k1⟩
  exact ⟨rfl, h.upd i hi k1 (fun _ h => h) (y := rd b s a' b') h1 (fun k hk => .inl hk)⟩
end
theorem rraw_sz (s : ByteArray) (a : Nat) (b k : Int) : (rraw s a b k).1.size ≤ s.size := by
  unfold rraw
  split
  · exact Nat.zero_le _
  · split
    · exact Nat.zero_le _
    · split
      · exact Nat.zero_le _
      · rw [ByteArray.size_extract]; omega
/-- What 'Of' reads. -/
structure HO where
  e : Int
  l : List (List UInt8)
  G : Int
  T : ByteArray
  A : Int
  Q : Int
  Z : Int
  m : List UInt8
def hoz (e : Int) : HO := ⟨e, [], 0, ByteArray.empty, 0, 0, 0, Z32⟩
def fin (f g : Int) (l : List (List UInt8)) (G : Int) (T : ByteArray) (A Q Z : Int) (m : List UInt8) : HO := if f ≠ 0 then hoz f else if g ≠ 0 then hoz g else ⟨0, l, G, T, A, Q, Z, m⟩
def ofh (s : ByteArray) : HO :=
  if 256 < s.size then hoz 3
  else
    let n := rnum s 0 0 1
    let S := rdIds s n.2.1 n.2.2 n.1
    let G := rnum s S.2.1 S.2.2 4
    let t := rnum s G.2.1 G.2.2 1
    let T := rraw s t.2.1 t.2.2 t.1
    let A := rnum s T.2.1 T.2.2 1
    let Q := rnum s A.2.1 A.2.2 4
    let Z := rnum s Q.2.1 Q.2.2 2
    let m := rraw s Z.2.1 Z.2.2 32
    fin (endv s m.2.1 m.2.2) (ck n.1 S.1 G.1 T.1 A.1 Q.1 Z.1) S.1 G.1 T.1 A.1 Q.1 Z.1 (pad m.1.data.toList)
theorem ofh_eq {s : ByteArray} (hs : s.size ≤ 256) {n a0 : Nat} {b0 : Int} {l : List (List UInt8)} {a1 : Nat} {b1 : Int} {G a2 : Nat} {b2 : Int} {nT aT : Nat} {bT : Int} {T : ByteArray} {a3 : Nat} {b3 : Int} {A a4 : Nat} {b4 : Int} {Q a5 : Nat} {b5 : Int} {Z a6 : Nat} {b6 : Int} {x : ByteArray} {a7 : Nat} {b7 : Int}
    (hn : rnum s 0 0 1 = (n, a0, b0)) (hS : rdIds s a0 b0 n = (l, a1, b1)) (hG : rnum s a1 b1 4 = (G, a2, b2)) (ht : rnum s a2 b2 1 = (nT, aT, bT)) (hT : rraw s aT bT nT = (T, a3, b3)) (hA : rnum s a3 b3 1 = (A, a4, b4)) (hQ : rnum s a4 b4 4 = (Q, a5, b5)) (hZ : rnum s a5 b5 2 = (Z, a6, b6)) (hx : rraw s a6 b6 32 = (x, a7, b7)) :
    fin (endv s a7 b7) (ck n l G T A Q Z) l G T A Q Z (pad x.data.toList) = ofh s := by
  symm
  unfold ofh
  rw [if_neg (by omega)]
  simp only [hn, hS, hG, ht, hT, hA, hQ, hZ, hx]
/-- What a call of 'Of' comes to. -/
def OfPost (R : HO) (w : World) (e : Ending) (w' : World) : Prop :=
  ∃ v, e = .returned (.tuple #[.agg (hd v R.G R.T R.A R.Q R.Z R.m).toArray, .int .i64 R.e]) ∧ Own w' v R.l ∧ Keep (fun _ => False) w w' ∧ ∀ k, v.ownBlock = some k → w.heap.size ≤ k
theorem of_zero {w w' : World} {e : Ending} {x : Int} (he : e = .returned (.tuple #[.agg hz0, .int .i64 x])) (k : Keep (fun _ => False) w w') : OfPost (hoz x) w e w' :=
  ⟨.slice none 0 0, he, Own.nil _, k, fun k hk => by simp [Value.ownBlock] at hk⟩
theorem hd_mid (pv : Value) (G : Int) (T : ByteArray) (A Q Z : Int) (m d : List UInt8) (hm : m.length = 32) : ((hd pv G T A Q Z m).toArray.toList.take 6 ++ (d.map bv).toArray.toList ++ (hd pv G T A Q Z m).toArray.toList.drop (6 + 32)).toArray = (hd pv G T A Q Z d).toArray := by
  refine congrArg List.toArray ?_
  have h1 : (hd pv G T A Q Z m).take 6 = [pv, .int .i64 G, .string T, .int .i64 A, .int .i64 Q, .int .i64 Z] := rfl
  have h2 : (hd pv G T A Q Z m).drop (6 + 32) = [] := by
    have e : (hd pv G T A Q Z m).drop 6 = m.map bv := rfl
    rw [← List.drop_drop, e, List.drop_eq_nil_of_le (by simp [hm])]
  rw [h1, h2]
  unfold hd
  simp
theorem hd_pv (pv : Value) (G : Int) (T : ByteArray) (A Q Z : Int) (m : List UInt8) (v : Value) : (hd pv G T A Q Z m).toArray.setIfInBounds 0 v = (hd v G T A Q Z m).toArray := by
  rw [List.setIfInBounds_toArray]
  rfl
theorem set_pv {F : Nat → Prop} {w0 w : World} {it : List Mem.It} (h : M F w0 w it) (i : Nat) {b : Nat} {pv : Value} {G : Int} {T : ByteArray} {A Q Z : Int} {m : List UInt8} (hi : it[i]? = some (blk b (.cells (hd pv G T A Q Z m).toArray 29))) (v : Value) :
    M F w0 (w.setCell ⟨b, 0, none⟩ v) (it.set i (blk b (.cells (hd v G T A Q Z m).toArray 29))) := by
  have := h.setc i hi 0 v
  rwa [hd_pv] at this
set_option maxRecDepth 100000 in
set_option maxHeartbeats 1000000 in
theorem of_long (w : World) (s : ByteArray) (hs : 256 < s.size) (hm : s.size ≤ maxLen) : Calls Tryd.prog 20 #[.string s] w (OfPost (hoz 3) w) := by
  unfold maxLen at hm
  have HM : Hid (M (fun _ => False) w _ [blk w.heap.size (.cells hz0 29)]) := (M.start (fun _ => False) w).alloc _ rfl
  go_enter Tryd.func20, Tryd.ntmps20
  go_wp2_with (first | (refine St.wl_alloc tyH rfl rfl (by (try simp only [World.size_alloc]); rfl) ?_; simp only [Act.put, List.setIfInBounds_toArray, List.set_cons_zero, List.set_cons_succ]) | (refine St.wl_buildV rfl rfl (cs := hz0) (by kernel_rfl) ?_; simp only [Act.put, List.setIfInBounds_toArray, List.set_cons_zero, List.set_cons_succ]) | (refine St.wl_store tyH rfl rfl rfl rfl (show _ = Value.agg hz0 from rfl) (hd_sz rfl) (hd_one _ _ _ _ _ _ _ _ _) (HM.out.get 0 rfl) (hd_sz rfl) ?_; have HM : Hid _ := HM.out.setr 0 rfl hz0))
  refine bodyPost_ret (St.res2 tyH rfl _ _ w.heap.size hz0 (hd_sz rfl) rfl (HM.out.get 0 rfl) _ rfl) rfl ?_
  exact of_zero rfl HM.out.keep
set_option maxRecDepth 100000 in
set_option maxHeartbeats 4000000 in
theorem of_ok (w : World) (s : ByteArray) (hs : s.size ≤ 256) (n a0 : Nat) (b0 : Int) (l : List (List UInt8)) (a1 : Nat) (b1 : Int) (G a2 : Nat) (b2 : Int) (nT aT : Nat) (bT : Int) (T : ByteArray) (a3 : Nat) (b3 : Int) (A a4 : Nat) (b4 : Int) (Q a5 : Nat) (b5 : Int) (Z a6 : Nat) (b6 : Int) (x : ByteArray) (a7 : Nat) (b7 : Int)
    (hn : rnum s 0 0 1 = (n, a0, b0)) (hS : rdIds s a0 b0 n = (l, a1, b1)) (hG : rnum s a1 b1 4 = (G, a2, b2)) (ht : rnum s a2 b2 1 = (nT, aT, bT)) (hT : rraw s aT bT nT = (T, a3, b3)) (hA : rnum s a3 b3 1 = (A, a4, b4)) (hQ : rnum s a4 b4 4 = (Q, a5, b5)) (hZ : rnum s a5 b5 2 = (Z, a6, b6)) (hx : rraw s a6 b6 32 = (x, a7, b7))
    (R : HO) (hO : fin (endv s a7 b7) (ck n l G T A Q Z) l G T A Q Z (pad x.data.toList) = R) :
    Calls Tryd.prog 20 #[.string s] w (OfPost R w) := by
  have hll : l.length = n := by have := rdIds_len s a0 b0 n; rw [hS] at this; exact this
  have hn8 : n < 256 := by have := rnum1_lt s 0 0; rw [hn] at this; exact this
  have hx32 : x.size ≤ 32 := by have := rraw_32 s a6 b6; rw [hx] at this; exact this
  obtain ⟨m, hm⟩ : ∃ m, pad x.data.toList = m := ⟨_, rfl⟩
  have hml : m.length = 32 := by rw [← hm]; exact pad_len x.data.toList (by rw [Array.length_toList]; exact hx32)
  have hTs : T.size ≤ maxLen := by have := rraw_sz s aT bT nT; rw [hT] at this; unfold maxLen; simp only at this; omega
  obtain ⟨f, hf⟩ : ∃ f, endv s a7 b7 = f := ⟨_, rfl⟩
  obtain ⟨g, hg⟩ : ∃ g, ck n l G T A Q Z = g := ⟨_, rfl⟩
  rw [hf, hg, hm] at hO
  have Hs : Hid (s.size ≤ maxLen) := (by unfold maxLen; omega : s.size ≤ maxLen)
  have Hn : Hid _ := hn
  have HS : Hid _ := hS
  have HG : Hid _ := hG
  have Ht : Hid _ := ht
  have HT : Hid _ := hT
  have HA : Hid _ := hA
  have HQ : Hid _ := hQ
  have HZ : Hid _ := hZ
  have Hx : Hid _ := hx
  have Hm : Hid _ := hm
  have Hml : Hid (m.length = 32) := hml
  have HTs : Hid (T.size ≤ maxLen) := hTs
  have Hf : Hid _ := hf
  have Hg : Hid _ := hg
  have HO : Hid _ := hO
  have Hll : Hid (l.length = n) := hll
  have HM : Hid (M (fun _ => False) w _ [blk w.heap.size (.cells hz0 29)]) := (M.start (fun _ => False) w).alloc _ rfl
  clear hn hS hG ht hT hA hQ hZ hx hm hml hTs hf hg hO hll
  go_enter Tryd.func20, Tryd.ntmps20
  go_wp2_with (first | (refine St.wl_alloc tyH rfl rfl (by (try simp only [World.size_alloc]); rfl) ?_; simp only [Act.put, List.setIfInBounds_toArray, List.set_cons_zero, List.set_cons_succ]) | (go_at_call 46; refine (M.open HM.out s Hs.out (by simp only [World.size_alloc]; rfl)).mono ?_; rintro e w1 ⟨rfl, h1⟩; have HM : Hid _ := (M.alloc h1 (.cells hz0 29) rfl); clear h1) | (go_at_call 47; refine (M.rnum HM.out 1 rfl Hn.out).mono ?_; rintro e w2 ⟨rfl, h1⟩; have HM : Hid _ := h1; clear h1))
  obtain ⟨ob, hob⟩ : ∃ b, w1.heap.size = b := ⟨_, rfl⟩
  rw [hob] at HM ⊢
  clear hob
  go_loopw [15] (fun i wr => ∃ (k : Nat) (va : Option Addr) (vc : Nat), k ≤ n ∧ i = .int .i64 k ∧ M (fun _ => False) w wr [blk w.heap.size (.cells hz0 29), rd (w.heap.size + 1) s (rdIds s a0 b0 k).2.1 (rdIds s a0 b0 k).2.2, blk ob (.cells (hd (.slice va k vc) 0 ByteArray.empty 0 0 0 Z32).toArray 29), ids (.slice va k vc) (rdIds s a0 b0 k).1]) (fun i _ => n - (intOf i).toNat)
  case atStart => exact ⟨0, none, 0, Nat.zero_le _, rfl, HM.out.nilI⟩
  case round =>
    obtain ⟨k, va, vc, hk, rfl, hrel⟩ := hrel
    have HM : Hid _ := hrel
    clear hrel
    by_cases hlt : k < n
    · obtain ⟨p, hp⟩ : ∃ p, rdIds s a0 b0 k = p := ⟨_, rfl⟩
      obtain ⟨l9, a9, b9⟩ := p
      obtain ⟨q, hq⟩ : ∃ q, rraw s a9 b9 32 = q := ⟨_, rfl⟩
      obtain ⟨x9, a8, b8⟩ := q
      have hx9 : x9.size ≤ 32 := by have := rraw_32 s a9 b9; rw [hq] at this; exact this
      have hll : l9.length = k := by have := rdIds_len s a0 b0 k; rw [hp] at this; exact this
      have HS2 : Hid _ := rdIds_step hp hq
      have Hq : Hid _ := hq
      have HM : Hid (M (fun _ => False) w wr [blk w.heap.size (.cells hz0 29), rd (w.heap.size + 1) s a9 b9, blk ob (.cells (hd (.slice va k vc) 0 ByteArray.empty 0 0 0 Z32).toArray 29), ids (.slice va k vc) l9]) := by have := HM.out; rw [hp] at this; exact this
      have Hpl : Hid _ := pad_len x9.data.toList (by rw [Array.length_toList]; exact hx9)
      have g36 : wr.cell? ⟨ob, 0, none⟩ = some (.slice va k vc) := HM.out.cell 2 rfl 0 rfl
      clear hp hq
      go_wp2
      refine Txt.wp_region_text1 (fun w' => w'.cell? ⟨ob, 0, none⟩ = some (.slice va k vc)) [0, 2, 0, 4, 3, 4, 0, 4] (by kernel_rfl) (by kernel_rfl) g36 ?_
      simp only [List.dropLast]
      repeat (first
        | (refine Txt.tl_pure (v := ?_) (by rfl) ?_ ?_; rotate_left; (focus (intro _; go_simp; try with_reducible rfl)); simp only [Act.put, List.setIfInBounds_toArray, List.set_cons_zero, List.set_cons_succ])
        | (refine Txt.tl_skip (by rfl) trivial ?_; simp only [Act.put, List.setIfInBounds_toArray, List.set_cons_zero, List.set_cons_succ])
        | (refine Txt.tl_load (v := ?_) (by rfl) (by rfl) (by rfl) (by kernel_rfl) ?_ ?_; rotate_left; (focus (first | assumption | (go_simp; done) | (go_simp; with_reducible rfl))); simp only [Act.put, List.setIfInBounds_toArray, List.set_cons_zero, List.set_cons_succ])
        | (refine Txt.tl_alloc (by rfl) ?_; go_simp; refine ⟨by (first | exact Txt.Le.alloc_drew _ _ | exact Txt.Le.alloc _ _), ?_⟩))
      refine Txt.tl_loadS (v := .slice va k vc) (by rfl) (by rfl) (by rfl) (by kernel_rfl) (fun _ h => h) ?_
      simp only [Act.put, List.setIfInBounds_toArray, List.set_cons_zero, List.set_cons_succ]
      repeat (first
        | (refine Txt.tl_pure (v := ?_) (by rfl) ?_ ?_; rotate_left; (focus (intro _; go_simp; try with_reducible rfl)); simp only [Act.put, List.setIfInBounds_toArray, List.set_cons_zero, List.set_cons_succ])
        | (refine Txt.tl_skip (by rfl) trivial ?_; simp only [Act.put, List.setIfInBounds_toArray, List.set_cons_zero, List.set_cons_succ])
        | (refine Txt.tl_load (v := ?_) (by rfl) (by rfl) (by rfl) (by kernel_rfl) ?_ ?_; rotate_left; (focus (first | assumption | (go_simp; done) | (go_simp; with_reducible rfl))); simp only [Act.put, List.setIfInBounds_toArray, List.set_cons_zero, List.set_cons_succ])
        | (refine Txt.tl_alloc (by rfl) ?_; go_simp; refine ⟨by (first | exact Txt.Le.alloc_drew _ _ | exact Txt.Le.alloc _ _), ?_⟩))
      refine Txt.tl_call Tryd.func48 (by kernel_rfl) (by kernel_rfl) (by rfl) (by rfl) (by rfl) (id_m HM.out.drew 1 rfl Hq.out rfl) ?_
      rintro e w4 ⟨rfl, h1⟩
      have HM : Hid _ := h1
      clear h1
      refine ⟨_, rfl, HM.out.cell 2 rfl 0 rfl, ?_⟩
      simp only [Act.put, List.setIfInBounds_toArray, List.set_cons_zero, List.set_cons_succ]
      repeat (first
        | (refine Txt.tl_pure (v := ?_) (by rfl) ?_ ?_; rotate_left; (focus (intro _; go_simp; try with_reducible rfl)); simp only [Act.put, List.setIfInBounds_toArray, List.set_cons_zero, List.set_cons_succ])
        | (refine Txt.tl_skip (by rfl) trivial ?_; simp only [Act.put, List.setIfInBounds_toArray, List.set_cons_zero, List.set_cons_succ])
        | (refine Txt.tl_load (v := ?_) (by rfl) (by rfl) (by rfl) (by kernel_rfl) ?_ ?_; rotate_left; (focus (first | assumption | (go_simp; done) | (go_simp; with_reducible rfl))); simp only [Act.put, List.setIfInBounds_toArray, List.set_cons_zero, List.set_cons_succ])
        | (refine Txt.tl_alloc (by rfl) ?_; go_simp; refine ⟨by (first | exact Txt.Le.alloc_drew _ _ | exact Txt.Le.alloc _ _), ?_⟩))
      refine Txt.tl_alloc (by rfl) ?_
      refine Ids.wp_build rfl Hpl.out rfl ?_
      have HM : Hid _ := HM.out.alloc (.cells ((pad x9.data.toList).map bv).toArray 23) rfl
      refine ⟨⟨Txt.Le.alloc _ _, HM.out.cell 2 rfl 0 rfl⟩, ?_⟩
      simp only [Act.put, List.setIfInBounds_toArray, List.set_cons_zero, List.set_cons_succ]
      refine Txt.tl_loud (by rfl) ?_
      refine wp_app1 rfl rfl (HM.out.get 3 rfl) rfl Hpl.out (heap_alloc_new _ _) (by omega) ?_
      intro v' w6 h1 k1 h3
      obtain ⟨ya, yc, hy, _, _⟩ := h1.at
      rw [List.length_append, hll] at hy
      have HM : Hid _ := (HM.out.appI 3 rfl h1 k1 h3).take 4
      clear h1 k1 h3
      subst hy
      refine ⟨HM.out.cell 2 rfl 0 rfl, ?_⟩
      simp only [Act.put, List.setIfInBounds_toArray, List.set_cons_zero, List.set_cons_succ]
      repeat (first
        | (refine Txt.tl_pure (v := ?_) (by rfl) ?_ ?_; rotate_left; (focus (intro _; go_simp; try with_reducible rfl)); simp only [Act.put, List.setIfInBounds_toArray, List.set_cons_zero, List.set_cons_succ])
        | (refine Txt.tl_skip (by rfl) trivial ?_; simp only [Act.put, List.setIfInBounds_toArray, List.set_cons_zero, List.set_cons_succ])
        | (refine Txt.tl_load (v := ?_) (by rfl) (by rfl) (by rfl) (by kernel_rfl) ?_ ?_; rotate_left; (focus (first | assumption | (go_simp; done) | (go_simp; with_reducible rfl))); simp only [Act.put, List.setIfInBounds_toArray, List.set_cons_zero, List.set_cons_succ])
        | (refine Txt.tl_alloc (by rfl) ?_; go_simp; refine ⟨by (first | exact Txt.Le.alloc_drew _ _ | exact Txt.Le.alloc _ _), ?_⟩))
      refine Txt.tl_nil ?_
      refine Txt.tl_last (by rfl) (by rfl) ?_
      have f36 := HM.out.free 2 rfl 0
      have g36' := HM.out.cell 2 rfl 0 rfl
      go_simp
      go_wp2
      go_roundw
      case rel => exact ⟨k + 1, ya, yc, by omega, rfl, by rw [HS2.out]; exact set_pv HM.out 2 rfl _⟩
      case measure => simp [intOf]; omega
    · obtain rfl : k = n := by omega
      have HM : Hid (M (fun _ => False) w wr [blk w.heap.size (.cells hz0 29), rd (w.heap.size + 1) s a1 b1, blk ob (.cells (hd (.slice va k vc) 0 ByteArray.empty 0 0 0 Z32).toArray 29), ids (.slice va k vc) l]) := by have := HM.out; rw [HS.out] at this; exact this
      go_wp2_with (first | (go_at_call 47; refine (M.rnum HM.out 1 rfl HG.out).mono ?_; clear HG; rintro e w5 ⟨rfl, h1⟩; have f1 := h1.free 2 rfl 1; have c1 := h1.cell 2 rfl 1 rfl; have HM : Hid (M (fun _ => False) w _ [blk w.heap.size (.cells hz0 29), rd (w.heap.size + 1) s a2 b2, blk ob (.cells (hd (.slice va k vc) G ByteArray.empty 0 0 0 Z32).toArray 29), ids (.slice va k vc) l]) := h1.setc 2 rfl 1 (.int .i64 G); clear h1) | (go_at_call 47; refine (M.rnum HM.out 1 rfl Ht.out).mono ?_; clear Ht; rintro e w6 ⟨rfl, h1⟩; have HM : Hid _ := h1; clear h1) | (go_at_call 49; refine (M.rraw HM.out 1 rfl HT.out).mono ?_; clear HT; rintro e w7 ⟨rfl, h1⟩; have f2 := h1.free 2 rfl 2; have c2 := h1.cell 2 rfl 2 rfl; have HM : Hid (M (fun _ => False) w _ [blk w.heap.size (.cells hz0 29), rd (w.heap.size + 1) s a3 b3, blk ob (.cells (hd (.slice va k vc) G T 0 0 0 Z32).toArray 29), ids (.slice va k vc) l]) := h1.setc 2 rfl 2 (.string T); clear h1) | (go_at_call 47; refine (M.rnum HM.out 1 rfl HA.out).mono ?_; clear HA; rintro e w8 ⟨rfl, h1⟩; have f3 := h1.free 2 rfl 3; have c3 := h1.cell 2 rfl 3 rfl; have HM : Hid (M (fun _ => False) w _ [blk w.heap.size (.cells hz0 29), rd (w.heap.size + 1) s a4 b4, blk ob (.cells (hd (.slice va k vc) G T A 0 0 Z32).toArray 29), ids (.slice va k vc) l]) := h1.setc 2 rfl 3 (.int .i64 A); clear h1) | (go_at_call 47; refine (M.rnum HM.out 1 rfl HQ.out).mono ?_; clear HQ; rintro e w9 ⟨rfl, h1⟩; have f4 := h1.free 2 rfl 4; have c4 := h1.cell 2 rfl 4 rfl; have HM : Hid (M (fun _ => False) w _ [blk w.heap.size (.cells hz0 29), rd (w.heap.size + 1) s a5 b5, blk ob (.cells (hd (.slice va k vc) G T A Q 0 Z32).toArray 29), ids (.slice va k vc) l]) := h1.setc 2 rfl 4 (.int .i64 Q); clear h1) | (go_at_call 47; refine (M.rnum HM.out 1 rfl HZ.out).mono ?_; clear HZ; rintro e w10 ⟨rfl, h1⟩; have f5 := h1.free 2 rfl 5; have c5 := h1.cell 2 rfl 5 rfl; have HM : Hid (M (fun _ => False) w _ [blk w.heap.size (.cells hz0 29), rd (w.heap.size + 1) s a6 b6, blk ob (.cells (hd (.slice va k vc) G T A Q Z Z32).toArray 29), ids (.slice va k vc) l]) := h1.setc 2 rfl 5 (.int .i64 Z); clear h1) | (go_at_call 48; refine (id_m HM.out 1 rfl Hx.out Hm.out).mono ?_; clear Hx; rintro e w11 ⟨rfl, h1⟩; have HM : Hid _ := h1; clear h1) | (refine St.wl_storeMid tyI rfl rfl rfl rfl rfl (cs := (m.map bv).toArray) (by rw [List.size_toArray, List.length_map]; exact Hml.out) (one_bv m) (HM.out.get 2 rfl) (by rw [hd_sz rfl]; decide) (hd_mid _ _ _ _ _ _ _ m rfl) ?_; have HM : Hid (M (fun _ => False) w _ [blk w.heap.size (.cells hz0 29), rd (w.heap.size + 1) s a7 b7, blk ob (.cells (hd (.slice va k vc) G T A Q Z m).toArray 29), ids (.slice va k vc) l]) := HM.out.setr 2 rfl (hd (.slice va k vc) G T A Q Z m).toArray) | (go_at_call 50; refine (M.rend HM.out 1 rfl Hf.out).mono ?_; clear Hf; rintro e w12 ⟨rfl, h1⟩; have HM : Hid _ := h1; clear h1) | ((with_reducible refine at_load 29 ?_); refine St.wl_load tyH (by rfl) rfl rfl (HM.out.range 2 rfl) (hd_len _ _ _ _ _ _ _ Hml.out) ?_; simp only [Act.put, List.setIfInBounds_toArray, List.set_cons_zero, List.set_cons_succ]) | (go_at_call 16; refine (check_any _ va k vc l G T A Q Z m (ids_at HM.out 3 rfl Hll.out) Hml.out (by omega) HTs.out g Hg.out).mono ?_; rintro e w13 ⟨rfl, k1⟩; have HM : Hid _ := HM.out.calm k1; clear k1) | (refine St.wl_buildV (T := 29) rfl rfl (cs := hz0) (by kernel_rfl) ?_; simp only [Act.put, List.setIfInBounds_toArray, List.set_cons_zero, List.set_cons_succ]) | (refine St.wl_store tyH rfl rfl rfl rfl (show _ = Value.agg hz0 from rfl) (hd_sz rfl) (hd_one _ _ _ _ _ _ _ _ _) (HM.out.get 0 rfl) (hd_sz rfl) ?_; have HM : Hid _ := HM.out.setr 0 rfl hz0) | (refine St.wl_store tyH rfl rfl rfl rfl (show _ = Value.agg (hd (.slice va k vc) G T A Q Z m).toArray from rfl) (hd_sz Hml.out) (hd_one _ _ _ _ _ _ _ _ _) (HM.out.get 0 rfl) (hd_sz rfl) ?_; have HM : Hid _ := HM.out.setr 0 rfl (hd (.slice va k vc) G T A Q Z m).toArray))
      all_goals first
        | (refine bodyPost_ret (St.res2 tyH rfl _ _ w.heap.size hz0 (hd_sz rfl) rfl (HM.out.get 0 rfl) _ rfl) rfl ?_
           have e := HO.out
           unfold fin at e
           repeat' split at e
           all_goals first | (subst e; exact of_zero rfl HM.out.keep) | (exfalso; simp_all; done))
        | (refine bodyPost_ret (St.res2 tyH rfl _ _ w.heap.size (hd (.slice va k vc) G T A Q Z m).toArray (hd_sz Hml.out) rfl (HM.out.get 0 rfl) _ rfl) rfl ?_
           have e := HO.out
           unfold fin at e
           repeat' split at e
           all_goals first | (subst e; exact ⟨.slice va k vc, rfl, HM.out.get 3 rfl, HM.out.keep, fun k hk => (HM.out.rng 3 _ rfl k hk).1.resolve_right (fun h => h)⟩) | (exfalso; simp_all; done))
theorem of_any_h (w : World) (s : ByteArray) (hm : s.size ≤ maxLen) : Calls Tryd.prog 20 #[.string s] w (OfPost (ofh s) w) := by
  by_cases hs : 256 < s.size
  · rw [show ofh s = hoz 3 from if_pos hs]
    exact of_long w s hs hm
  · have hs' : s.size ≤ 256 := by omega
    obtain ⟨⟨n, a0, b0⟩, hn⟩ : ∃ p, rnum s 0 0 1 = p := ⟨_, rfl⟩
    obtain ⟨⟨l, a1, b1⟩, hS⟩ : ∃ p, rdIds s a0 b0 n = p := ⟨_, rfl⟩
    obtain ⟨⟨G, a2, b2⟩, hG⟩ : ∃ p, rnum s a1 b1 4 = p := ⟨_, rfl⟩
    obtain ⟨⟨nT, aT, bT⟩, ht⟩ : ∃ p, rnum s a2 b2 1 = p := ⟨_, rfl⟩
    obtain ⟨⟨T, a3, b3⟩, hT⟩ : ∃ p, rraw s aT bT nT = p := ⟨_, rfl⟩
    obtain ⟨⟨A, a4, b4⟩, hA⟩ : ∃ p, rnum s a3 b3 1 = p := ⟨_, rfl⟩
    obtain ⟨⟨Q, a5, b5⟩, hQ⟩ : ∃ p, rnum s a4 b4 4 = p := ⟨_, rfl⟩
    obtain ⟨⟨Z, a6, b6⟩, hZ⟩ : ∃ p, rnum s a5 b5 2 = p := ⟨_, rfl⟩
    obtain ⟨⟨x, a7, b7⟩, hx⟩ : ∃ p, rraw s a6 b6 32 = p := ⟨_, rfl⟩
    exact of_ok w s hs' n a0 b0 l a1 b1 G a2 b2 nT aT bT T a3 b3 A a4 b4 Q a5 b5 Z a6 b6 x a7 b7 hn hS hG ht hT hA hQ hZ hx _ (ofh_eq hs' hn hS hG ht hT hA hQ hZ hx)
end Hd
end Go.Proofs.YthdjbpimjbkajaaDoor
