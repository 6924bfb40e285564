/-
  op.Of.
-/
import Derived.Test.YtfoplimdbapdfaaDoorOxG
import Derived.Test.YtfoplimdbapdfaaDoorOx7
set_option linter.unusedVariables false
set_option linter.unusedSimpArgs false
namespace Go.Proofs.YtfoplimdbapdfaaDoor
open Go.RowKit
namespace Mem
open Oct
theorem M.put {F : Nat → Prop} {w0 w w' : World} {l l' : List It} (h : M F w0 w l) (h' : M F w0 w' l') {x : It} (hx : x.holds w') (hf : ∀ k, x.foot k → w.heap.size ≤ k ∧ k < w'.heap.size) (hl : ∀ (i : Nat) (y : It), l'[i]? = some y → ∀ k, y.foot k → k < w.heap.size) : M F w0 w' (l' ++ [x]) := by
  have at_ : ∀ (i : Nat) (y : It), (l' ++ [x])[i]? = some y → (l'[i]? = some y ∧ i < l'.length) ∨ (y = x ∧ i = l'.length) := by
    intro i y hi
    rcases Nat.lt_or_ge i l'.length with hlt | hge
    · rw [List.getElem?_append_left hlt] at hi; exact .inl ⟨hi, hlt⟩
    · rw [List.getElem?_append_right hge] at hi
      have h0 : i - l'.length < 1 := by
        have := (List.getElem?_eq_some_iff.1 hi).1
        simpa using this
      have h1 : i = l'.length := by omega
      subst h1
      simp at hi
      exact .inr ⟨hi.symm, rfl⟩
  have h0 := h.keep.size
  refine ⟨fun i y hi => ?_, fun i j y z hi hj hij b hy hz' => ?_, fun i y hi b hb => ?_, h'.keep⟩
  · rcases at_ i y hi with ⟨h1, _⟩ | ⟨rfl, _⟩
    · exact h'.all i y h1
    · exact hx
  · rcases at_ i y hi with ⟨h1, e1⟩ | ⟨rfl, e1⟩ <;> rcases at_ j z hj with ⟨h2, e2⟩ | ⟨rfl, e2⟩
    · exact h'.dis i j y z h1 h2 hij b hy hz'
    · have := hl i y h1 b hy; have := hf b hz'; omega
    · have := hl j z h2 b hz'; have := hf b hy; omega
    · omega
  · rcases at_ i y hi with ⟨h1, _⟩ | ⟨rfl, _⟩
    · exact h'.rng i y h1 b hb
    · have := hf b hb; exact ⟨.inl (by omega), this.2⟩
theorem M.set_lt {F : Nat → Prop} {w0 w : World} {l : List It} (h : M F w0 w l) (i : Nat) {x y : It} (hi : l[i]? = some x) (hy : ∀ k, y.foot k → x.foot k) : ∀ (j : Nat) (z : It), (l.set i y)[j]? = some z → ∀ k, z.foot k → k < w.heap.size := by
  intro j z hj k hk
  have hlt : i < l.length := (List.getElem?_eq_some_iff.1 hi).1
  by_cases e : j = i
  · subst e
    rw [List.getElem?_set_self hlt] at hj
    cases hj
    exact h.lt j hi (hy k hk)
  · rw [List.getElem?_set_ne (Ne.symm e)] at hj
    exact h.lt j hj hk
end Mem
namespace Ox
open Oct Ids
open Mem (M blk rd ids)
open Ref (endv)

theorem take_any (w : World) (hT : TabP w) (b : Nat) (s : ByteArray) (a a1 a2 a3 a4 a5 : Nat) (bad b1 b2 b3 b4 b5 : Int) (K : Int) (hK : 1 ≤ K ∧ K ≤ 7) (r : List UInt8) (Y V : ByteArray) (m : Nat) (l : List (List UInt8)) (h : IsR w b s a bad) (hbt : b ≠ 0) (hR : rdR s a bad (iR K) = (r, a1, b1)) (hY : rdT s a1 b1 (iK K) = (Y, a2, b2)) (hV : rdT s a2 b2 (iV K) = (V, a3, b3)) (hN : rdN s a3 b3 (iN K) = (m, a4, b4)) (hS : rdS s a4 b4 (iS K) = (l, a5, b5)) :
    Calls Tryd.prog 40 #[.pointer (some ⟨b, 0, none⟩), .int .i64 K] w fun e w' => ∃ v, e = .returned (.agg (oc K (nv K m) Y V r v).toArray) ∧ Own w' v l ∧ IsR w' b s a5 b5 ∧ Keep (fun k => k = b) w w' ∧ (∀ k, v.ownBlock = some k → w.heap.size ≤ k) := by
  rcases (by omega : K = 1 ∨ K = 2 ∨ K = 3 ∨ K = 4 ∨ K = 5 ∨ K = 6 ∨ K = 7) with rfl | rfl | rfl | rfl | rfl | rfl | rfl
  · exact take_1 w hT b s a a1 a2 a3 a4 a5 bad b1 b2 b3 b4 b5 r Y V m l h hbt hR hY hV hN hS
  · exact take_2 w hT b s a a1 a2 a3 a4 a5 bad b1 b2 b3 b4 b5 r Y V m l h hbt hR hY hV hN hS
  · exact take_3 w hT b s a a1 a2 a3 a4 a5 bad b1 b2 b3 b4 b5 r Y V m l h hbt hR hY hV hN hS
  · exact take_4 w hT b s a a1 a2 a3 a4 a5 bad b1 b2 b3 b4 b5 r Y V m l h hbt hR hY hV hN hS
  · exact take_5 w hT b s a a1 a2 a3 a4 a5 bad b1 b2 b3 b4 b5 r Y V m l h hbt hR hY hV hN hS
  · exact take_6 w hT b s a a1 a2 a3 a4 a5 bad b1 b2 b3 b4 b5 r Y V m l h hbt hR hY hV hN hS
  · exact take_7 w hT b s a a1 a2 a3 a4 a5 bad b1 b2 b3 b4 b5 r Y V m l h hbt hR hY hV hN hS
theorem take_m {F : Nat → Prop} {w0 w : World} {it : List Mem.It} (hM : M F w0 w it) (i : Nat) {b : Nat} {s : ByteArray} {a : Nat} {bad : Int} (hi : it[i]? = some (rd b s a bad)) (hT : TabP w) (hbt : b ≠ 0) {a1 a2 a3 a4 a5 : Nat} {b1 b2 b3 b4 b5 : Int} {K : Int} (hK : 1 ≤ K ∧ K ≤ 7) {r : List UInt8} {Y V : ByteArray} {m : Nat} {l : List (List UInt8)} (hR : rdR s a bad (iR K) = (r, a1, b1)) (hY : rdT s a1 b1 (iK K) = (Y, a2, b2)) (hV : rdT s a2 b2 (iV K) = (V, a3, b3)) (hN : rdN s a3 b3 (iN K) = (m, a4, b4)) (hS : rdS s a4 b4 (iS K) = (l, a5, b5)) :
    Calls Tryd.prog 40 #[.pointer (some ⟨b, 0, none⟩), .int .i64 K] w fun e w' => ∃ va vc, e = .returned (.agg (oc K (nv K m) Y V r (.slice va l.length vc)).toArray) ∧ M F w0 w' (it.set i (rd b s a5 b5) ++ [ids (.slice va l.length vc) l]) := by
  refine (take_any w hT b s a a1 a2 a3 a4 a5 bad b1 b2 b3 b4 b5 K hK r Y V m l (hM.get i hi) hbt hR hY hV hN hS).mono ?_
  rintro e w' ⟨v, rfl, h1, h2, h3, h4⟩
  obtain ⟨va, vc, rfl, _, _⟩ := h1.at
  refine ⟨va, vc, rfl, hM.put (hM.upd i hi h3 (fun _ h => h) (y := rd b s a5 b5) h2 (fun k hk => .inl hk)) (x := ids (.slice va l.length vc) l) h1 (fun k hk => ⟨h4 k hk, h1.lt hk⟩) (hM.set_lt i hi (fun _ h => h))⟩
/-- What 'Of' reads. -/
structure OO where
  e : Int
  K : Int
  N : Int
  Y : ByteArray
  V : ByteArray
  r : List UInt8
  l : List (List UInt8)
def oz (e : Int) : OO := ⟨e, 0, 0, ByteArray.empty, ByteArray.empty, Z32, []⟩
def fin (f g K N : Int) (Y V : ByteArray) (r : List UInt8) (l : List (List UInt8)) : OO := if f ≠ 0 then oz f else if g ≠ 0 then oz g else ⟨0, K, N, Y, V, r, l⟩
def ofo (s : ByteArray) : OO :=
  let x := rnum s 0 0 1
  if x.2.2 ≠ 0 then oz x.2.2
  else if (x.1 : Int) < 1 ∨ 7 < (x.1 : Int) then oz 10
  else
    let R := rdR s x.2.1 0 (iR x.1)
    let Y := rdT s R.2.1 R.2.2 (iK x.1)
    let V := rdT s Y.2.1 Y.2.2 (iV x.1)
    let N := rdN s V.2.1 V.2.2 (iN x.1)
    let S := rdS s N.2.1 N.2.2 (iS x.1)
    fin (endv s S.2.1 S.2.2) (ck x.1 (nv x.1 N.1) Y.1 V.1 R.1 S.1.length S.1) x.1 (nv x.1 N.1) Y.1 V.1 R.1 S.1
theorem ofo_eq {s : ByteArray} {n a0 a1 a2 a3 a4 a5 : Nat} {b1 b2 b3 b4 b5 : Int} {r : List UInt8} {Y V : ByteArray} {m : Nat} {l : List (List UInt8)} (hn : rnum s 0 0 1 = (n, a0, 0)) (hK : 1 ≤ (n : Int) ∧ (n : Int) ≤ 7) (hR : rdR s a0 0 (iR n) = (r, a1, b1)) (hY : rdT s a1 b1 (iK n) = (Y, a2, b2)) (hV : rdT s a2 b2 (iV n) = (V, a3, b3)) (hN : rdN s a3 b3 (iN n) = (m, a4, b4)) (hS : rdS s a4 b4 (iS n) = (l, a5, b5)) :
    fin (endv s a5 b5) (ck n (nv n m) Y V r l.length l) n (nv n m) Y V r l = ofo s := by
  symm
  unfold ofo
  simp only [hn]
  rw [if_neg (by simp), if_neg (by omega)]
  simp only [hR, hY, hV, hN, hS]
/-- What a call of 'Of' comes to. -/
def OfPost (R : OO) (w : World) (e : Ending) (w' : World) : Prop :=
  ∃ v, e = .returned (.tuple #[.agg (oc R.K R.N R.Y R.V R.r v).toArray, .int .i64 R.e]) ∧ Own w' v R.l ∧ Keep (fun _ => False) w w' ∧ ∀ k, v.ownBlock = some k → w.heap.size ≤ k
theorem of_zero {w w' : World} {e : Ending} {x : Int} (he : e = .returned (.tuple #[.agg (oc 0 0 ByteArray.empty ByteArray.empty Z32 (.slice none 0 0)).toArray, .int .i64 x])) (k : Keep (fun _ => False) w w') : OfPost (oz x) w e w' :=
  ⟨.slice none 0 0, he, Own.nil _, k, fun k hk => by simp [Value.ownBlock] at hk⟩
theorem rdR_len (s : ByteArray) (a : Nat) (b : Int) (p : Bool) : (rdR s a b p).1.length = 32 := by
  cases p
  · rfl
  · exact pad_len _ (by rw [Array.length_toList]; exact rraw_32 s a b)
theorem rdS_len (s : ByteArray) (a : Nat) (b : Int) (p : Bool) : (rdS s a b p).1.length < 256 := by
  cases p
  · exact (by decide : 0 < 256)
  · show (rdIds _ _ _ _).1.length < 256
    rw [rdIds_len]
    exact rnum1_lt s a b
theorem ids_at {F : Nat → Prop} {w0 w : World} {it : List Mem.It} (h : M F w0 w it) (i : Nat) {va : Option Addr} {vc : Nat} {l : List (List UInt8)} (hi : it[i]? = some (ids (.slice va l.length vc) l)) : At w va l.length l := by
  obtain ⟨a, c, e, hat, _⟩ := Own.at (h.get i hi)
  cases e
  exact hat
abbrev oz0 : Array Value := (oc 0 0 ByteArray.empty ByteArray.empty Z32 (.slice none 0 0)).toArray
set_option maxRecDepth 100000 in
set_option maxHeartbeats 2000000 in
theorem of_any_op (w : World) (hT : TabP w) (s : ByteArray) (hs : s.size ≤ maxLen) : Calls Tryd.prog 12 #[.string s] w (OfPost (ofo s) w) := by
  obtain ⟨⟨n, a0, b0⟩, hn⟩ : ∃ p, rnum s 0 0 1 = p := ⟨_, rfl⟩
  have Hn : Hid _ := hn
  have Hs : Hid _ := hs
  have HT : Hid (TabP w) := hT
  have HM : Hid (M (fun _ => False) w _ [blk w.heap.size (.cells oz0 27)]) := (M.start (fun _ => False) w).alloc _ rfl
  by_cases hb : b0 = 0
  case neg =>
    have e : ofo s = oz b0 := by unfold ofo; simp only [hn]; rw [if_pos hb]
    rw [e]
    have hb' : (b0 != 0) = true := by simpa using hb
    clear e hb hn hs hT
    go_enter Tryd.func12, Tryd.ntmps12
    go_wp2_with (first | (refine St.wl_alloc tyO rfl rfl (by (try simp only [World.size_alloc]); rfl) ?_; simp only [Act.put, List.setIfInBounds_toArray, List.set_cons_zero, List.set_cons_succ]) | (go_at_call 36; refine (M.open HM.out s Hs.out (by simp only [World.size_alloc]; rfl)).mono ?_; rintro e w1 ⟨rfl, h1⟩; have HM : Hid _ := h1; clear h1) | (go_at_call 37; refine (M.rnum HM.out 1 rfl Hn.out).mono ?_; rintro e w2 ⟨rfl, h1⟩; have HM : Hid _ := h1; clear h1) | (go_at_call 38; refine (M.rerr HM.out 1 rfl).mono ?_; rintro e w3 ⟨rfl, rfl⟩) | (go_at_call 39; refine (of_any _ (HT.out.calm HM.out.keep) n).mono ?_; rw [Hp.out]; rintro e w4 ⟨rfl, rfl⟩) | (refine St.wl_buildV rfl rfl (cs := oz0) (by kernel_rfl) ?_; simp only [Act.put, List.setIfInBounds_toArray, List.set_cons_zero, List.set_cons_succ]) | (go_at_call 40; refine (take_m HM.out 1 rfl (HT.out.calm HM.out.keep) (by have := HT.out.1; omega) HK7.out HR.out HY.out HV.out HN.out HS.out).mono ?_; rw [HN2.out]; rintro e w5 ⟨va, vc, rfl, h1⟩; have HM : Hid _ := (M.alloc h1 (.cells (oc n N Y V r (.slice va l.length vc)).toArray 27) rfl); clear h1) | (refine St.wl_storeN tyO rfl rfl rfl rfl rfl (by (try simp only [World.size_alloc])) (show _ = Value.agg (oc n N Y V r (.slice va l.length vc)).toArray from rfl) (oc_sz Hrl.out) (oc_sz rfl) (oc_one _ _ _ _ _ _ _ _) ?_) | (go_at_call 41; refine (M.rend HM.out 1 rfl Hf.out).mono ?_; rintro e w6 ⟨rfl, h1⟩; have HM : Hid _ := h1; clear h1) | ((with_reducible refine at_load 27 ?_); refine St.wl_load tyO (by rfl) rfl rfl (HM.out.range 3 rfl) (oc_len _ _ _ _ _ _ Hrl.out) ?_; simp only [Act.put, List.setIfInBounds_toArray, List.set_cons_zero, List.set_cons_succ]) | (go_at_call 17; refine (check_any _ (HT.out.calm HM.out.keep) n N Y V r va l.length vc l Hrl.out (ids_at HM.out 2 rfl) g Hg.out).mono ?_; rintro e w7 ⟨rfl, k1⟩; have HM : Hid _ := HM.out.calm k1; clear k1) | (refine St.wl_store tyO rfl rfl rfl rfl (show _ = Value.agg oz0 from rfl) (oc_sz rfl) (oc_one _ _ _ _ _ _ _ _) (HM.out.get 0 rfl) (oc_sz rfl) ?_; have HM : Hid _ := HM.out.setr 0 rfl oz0) | (refine St.wl_store tyO rfl rfl rfl rfl (show _ = Value.agg (oc n N Y V r (.slice va l.length vc)).toArray from rfl) (oc_sz Hrl.out) (oc_one _ _ _ _ _ _ _ _) (HM.out.get 0 rfl) (oc_sz rfl) ?_; have HM : Hid _ := HM.out.setr 0 rfl (oc n N Y V r (.slice va l.length vc)).toArray))
    refine bodyPost_ret (St.res2 tyO rfl _ _ w.heap.size oz0 (oc_sz rfl) rfl (HM.out.get 0 rfl) _ rfl) rfl ?_
    exact of_zero rfl HM.out.keep
  subst hb
  have hn7 : (n : Int) < 256 := by have := rnum1_lt s 0 0; rw [hn] at this; simp only at this; omega
  by_cases hK : (n : Int) < 1 ∨ 7 < (n : Int)
  · have e : ofo s = oz 10 := by unfold ofo; simp only [hn]; rw [if_neg (by simp), if_pos hK]
    rw [e]
    obtain ⟨p, hp⟩ : ∃ p, pk n = p := ⟨_, rfl⟩
    have Hp : Hid _ := hp
    rw [pk_none hK] at hp
    subst hp
    clear e hK hn hs hT
    go_enter Tryd.func12, Tryd.ntmps12
    go_wp2_with (first | (refine St.wl_alloc tyO rfl rfl (by (try simp only [World.size_alloc]); rfl) ?_; simp only [Act.put, List.setIfInBounds_toArray, List.set_cons_zero, List.set_cons_succ]) | (go_at_call 36; refine (M.open HM.out s Hs.out (by simp only [World.size_alloc]; rfl)).mono ?_; rintro e w1 ⟨rfl, h1⟩; have HM : Hid _ := h1; clear h1) | (go_at_call 37; refine (M.rnum HM.out 1 rfl Hn.out).mono ?_; rintro e w2 ⟨rfl, h1⟩; have HM : Hid _ := h1; clear h1) | (go_at_call 38; refine (M.rerr HM.out 1 rfl).mono ?_; rintro e w3 ⟨rfl, rfl⟩) | (go_at_call 39; refine (of_any _ (HT.out.calm HM.out.keep) n).mono ?_; rw [Hp.out]; rintro e w4 ⟨rfl, rfl⟩) | (refine St.wl_buildV rfl rfl (cs := oz0) (by kernel_rfl) ?_; simp only [Act.put, List.setIfInBounds_toArray, List.set_cons_zero, List.set_cons_succ]) | (go_at_call 40; refine (take_m HM.out 1 rfl (HT.out.calm HM.out.keep) (by have := HT.out.1; omega) HK7.out HR.out HY.out HV.out HN.out HS.out).mono ?_; rw [HN2.out]; rintro e w5 ⟨va, vc, rfl, h1⟩; have HM : Hid _ := (M.alloc h1 (.cells (oc n N Y V r (.slice va l.length vc)).toArray 27) rfl); clear h1) | (refine St.wl_storeN tyO rfl rfl rfl rfl rfl (by (try simp only [World.size_alloc])) (show _ = Value.agg (oc n N Y V r (.slice va l.length vc)).toArray from rfl) (oc_sz Hrl.out) (oc_sz rfl) (oc_one _ _ _ _ _ _ _ _) ?_) | (go_at_call 41; refine (M.rend HM.out 1 rfl Hf.out).mono ?_; rintro e w6 ⟨rfl, h1⟩; have HM : Hid _ := h1; clear h1) | ((with_reducible refine at_load 27 ?_); refine St.wl_load tyO (by rfl) rfl rfl (HM.out.range 3 rfl) (oc_len _ _ _ _ _ _ Hrl.out) ?_; simp only [Act.put, List.setIfInBounds_toArray, List.set_cons_zero, List.set_cons_succ]) | (go_at_call 17; refine (check_any _ (HT.out.calm HM.out.keep) n N Y V r va l.length vc l Hrl.out (ids_at HM.out 2 rfl) g Hg.out).mono ?_; rintro e w7 ⟨rfl, k1⟩; have HM : Hid _ := HM.out.calm k1; clear k1) | (refine St.wl_store tyO rfl rfl rfl rfl (show _ = Value.agg oz0 from rfl) (oc_sz rfl) (oc_one _ _ _ _ _ _ _ _) (HM.out.get 0 rfl) (oc_sz rfl) ?_; have HM : Hid _ := HM.out.setr 0 rfl oz0) | (refine St.wl_store tyO rfl rfl rfl rfl (show _ = Value.agg (oc n N Y V r (.slice va l.length vc)).toArray from rfl) (oc_sz Hrl.out) (oc_one _ _ _ _ _ _ _ _) (HM.out.get 0 rfl) (oc_sz rfl) ?_; have HM : Hid _ := HM.out.setr 0 rfl (oc n N Y V r (.slice va l.length vc)).toArray))
    refine bodyPost_ret (St.res2 tyO rfl _ _ w.heap.size oz0 (oc_sz rfl) rfl (HM.out.get 0 rfl) _ rfl) rfl ?_
    exact of_zero rfl HM.out.keep
  have hK2 : 1 ≤ (n : Int) ∧ (n : Int) ≤ 7 := by omega
  obtain ⟨⟨r, a1, b1⟩, hR⟩ : ∃ p, rdR s a0 0 (iR n) = p := ⟨_, rfl⟩
  obtain ⟨⟨Y, a2, b2⟩, hY⟩ : ∃ p, rdT s a1 b1 (iK n) = p := ⟨_, rfl⟩
  obtain ⟨⟨V, a3, b3⟩, hV⟩ : ∃ p, rdT s a2 b2 (iV n) = p := ⟨_, rfl⟩
  obtain ⟨⟨m, a4, b4⟩, hN⟩ : ∃ p, rdN s a3 b3 (iN n) = p := ⟨_, rfl⟩
  obtain ⟨⟨l, a5, b5⟩, hS⟩ : ∃ p, rdS s a4 b4 (iS n) = p := ⟨_, rfl⟩
  have hO := ofo_eq hn hK2 hR hY hV hN hS
  obtain ⟨f, hf⟩ : ∃ f, endv s a5 b5 = f := ⟨_, rfl⟩
  obtain ⟨N, hN2⟩ : ∃ N, nv n m = N := ⟨_, rfl⟩
  obtain ⟨g, hg⟩ : ∃ g, ck n N Y V r l.length l = g := ⟨_, rfl⟩
  obtain ⟨R, hRR⟩ : ∃ R, ofo s = R := ⟨_, rfl⟩
  have hrl : r.length = 32 := by have := rdR_len s a0 0 (iR n); rw [hR] at this; exact this
  have hll : l.length < 256 := by have := rdS_len s a4 b4 (iS n); rw [hS] at this; exact this
  obtain ⟨p, hp⟩ : ∃ p, pk n = p := ⟨_, rfl⟩
  have hp0 := pk_some hK2
  rw [hp] at hp0
  rw [hf, hN2, hg, hRR] at hO
  rw [hRR]
  have Hp : Hid _ := hp
  have HO : Hid _ := hO
  have HK7 : Hid _ := hK2
  have HR : Hid _ := hR
  have HY : Hid _ := hY
  have HV : Hid _ := hV
  have HN : Hid _ := hN
  have HN2 : Hid _ := hN2
  have HS : Hid _ := hS
  have Hf : Hid _ := hf
  have Hg : Hid _ := hg
  have Hrl : Hid _ := hrl
  have Hll : Hid _ := hll
  clear hn hs hT hK hK2 hR hY hV hN hS hO hf hN2 hg hRR hrl hp hll
  go_enter Tryd.func12, Tryd.ntmps12
  go_wp2_with (first | (refine St.wl_alloc tyO rfl rfl (by (try simp only [World.size_alloc]); rfl) ?_; simp only [Act.put, List.setIfInBounds_toArray, List.set_cons_zero, List.set_cons_succ]) | (go_at_call 36; refine (M.open HM.out s Hs.out (by simp only [World.size_alloc]; rfl)).mono ?_; rintro e w1 ⟨rfl, h1⟩; have HM : Hid _ := h1; clear h1) | (go_at_call 37; refine (M.rnum HM.out 1 rfl Hn.out).mono ?_; rintro e w2 ⟨rfl, h1⟩; have HM : Hid _ := h1; clear h1) | (go_at_call 38; refine (M.rerr HM.out 1 rfl).mono ?_; rintro e w3 ⟨rfl, rfl⟩) | (go_at_call 39; refine (of_any _ (HT.out.calm HM.out.keep) n).mono ?_; rw [Hp.out]; rintro e w4 ⟨rfl, rfl⟩) | (refine St.wl_buildV rfl rfl (cs := oz0) (by kernel_rfl) ?_; simp only [Act.put, List.setIfInBounds_toArray, List.set_cons_zero, List.set_cons_succ]) | (go_at_call 40; refine (take_m HM.out 1 rfl (HT.out.calm HM.out.keep) (by have := HT.out.1; omega) HK7.out HR.out HY.out HV.out HN.out HS.out).mono ?_; rw [HN2.out]; rintro e w5 ⟨va, vc, rfl, h1⟩; have HM : Hid _ := (M.alloc h1 (.cells (oc n N Y V r (.slice va l.length vc)).toArray 27) rfl); clear h1) | (refine St.wl_storeN tyO rfl rfl rfl rfl rfl (by (try simp only [World.size_alloc])) (show _ = Value.agg (oc n N Y V r (.slice va l.length vc)).toArray from rfl) (oc_sz Hrl.out) (oc_sz rfl) (oc_one _ _ _ _ _ _ _ _) ?_) | (go_at_call 41; refine (M.rend HM.out 1 rfl Hf.out).mono ?_; rintro e w6 ⟨rfl, h1⟩; have HM : Hid _ := h1; clear h1) | ((with_reducible refine at_load 27 ?_); refine St.wl_load tyO (by rfl) rfl rfl (HM.out.range 3 rfl) (oc_len _ _ _ _ _ _ Hrl.out) ?_; simp only [Act.put, List.setIfInBounds_toArray, List.set_cons_zero, List.set_cons_succ]) | (go_at_call 17; refine (check_any _ (HT.out.calm HM.out.keep) n N Y V r va l.length vc l Hrl.out (ids_at HM.out 2 rfl) g Hg.out).mono ?_; rintro e w7 ⟨rfl, k1⟩; have HM : Hid _ := HM.out.calm k1; clear k1) | (refine St.wl_store tyO rfl rfl rfl rfl (show _ = Value.agg oz0 from rfl) (oc_sz rfl) (oc_one _ _ _ _ _ _ _ _) (HM.out.get 0 rfl) (oc_sz rfl) ?_; have HM : Hid _ := HM.out.setr 0 rfl oz0) | (refine St.wl_store tyO rfl rfl rfl rfl (show _ = Value.agg (oc n N Y V r (.slice va l.length vc)).toArray from rfl) (oc_sz Hrl.out) (oc_one _ _ _ _ _ _ _ _) (HM.out.get 0 rfl) (oc_sz rfl) ?_; have HM : Hid _ := HM.out.setr 0 rfl (oc n N Y V r (.slice va l.length vc)).toArray))
  all_goals first
    | (refine bodyPost_ret (St.res2 tyO rfl _ _ w.heap.size oz0 (oc_sz rfl) rfl (HM.out.get 0 rfl) _ rfl) rfl ?_
       have e := HO.out
       unfold fin at e
       repeat' split at e
       all_goals first | (subst e; exact of_zero rfl HM.out.keep) | (exfalso; simp_all; done))
    | (refine bodyPost_ret (St.res2 tyO rfl _ _ w.heap.size (oc n N Y V r (.slice va l.length vc)).toArray (oc_sz Hrl.out) rfl (HM.out.get 0 rfl) _ rfl) rfl ?_
       have e := HO.out
       unfold fin at e
       repeat' split at e
       all_goals first | (subst e; exact ⟨.slice va l.length vc, rfl, HM.out.get 2 rfl, HM.out.keep, fun k hk => (HM.out.rng 2 _ rfl k hk).1.resolve_right (fun h => h)⟩) | (exfalso; simp_all; done))
end Ox
end Go.Proofs.YtfoplimdbapdfaaDoor
