/-
  Put and Of of both, in one form; awake.
-/
import Derived.Test.YtmnmemeldjbifaaMsg9
namespace Go.Proofs.Ytmnmemeldjbifaa
open Go.RowKit
namespace Ms
open Oct Ids
open Ref (endv)

/-- What 'Put' answers. -/
def pv (K : Int) (n : Nat) (B : ByteArray) (l : List (List UInt8)) : ByteArray := if chk K n B = 0 then ⟨(enc K n B l).toArray⟩ else ByteArray.empty
theorem put_any (w : World) (K : Int) (a : Option Addr) (n c : Nat) (B : ByteArray) (l : List (List UInt8)) (h : At w a n l) :
    Calls Try.prog 15 #[.agg #[.int .i64 K, .slice a n c, .string B]] w fun e w' => e = .returned (.tuple #[.string (pv K n B l), .int .i64 (chk K n B)]) ∧ Keep (fun _ => False) w w' := by
  by_cases hc : chk K n B = 0
  · have := put_ok w K a n c B l h hc
    unfold pv
    rw [if_pos hc, hc]
    exact this
  · have := put_bad w K a n c B hc
    unfold pv
    rw [if_neg hc]
    exact this
theorem rput_any (w : World) (K : Int) (a : Option Addr) (n c : Nat) (B : ByteArray) (l : List (List UInt8)) (h : At w a n l) :
    Calls Try.prog 16 #[.agg #[.int .i64 K, .slice a n c, .string B]] w fun e w' => e = .returned (.tuple #[.string (pv K n B l), .int .i64 (chk K n B)]) ∧ Keep (fun _ => False) w w' := by
  by_cases hc : chk K n B = 0
  · have := rput_ok w K a n c B l h hc
    unfold pv
    rw [if_pos hc, hc]
    exact this
  · have := rput_bad w K a n c B hc
    unfold pv
    rw [if_neg hc]
    exact this
/-- What is read out of bytes: the error, the kind, the ids, the body. -/
structure OfV where
  e : Int
  K : Int
  ids : List (List UInt8)
  B : ByteArray
def ofv (s : ByteArray) : OfV :=
  let z := fun e : Int => (⟨e, 0, [], ByteArray.empty⟩ : OfV)
  if 1024 < s.size then z 3 else
    let x := rnum s 0 0 1
    if x.2.2 ≠ 0 then z x.2.2 else if knd x.1 = 0 then z 10 else if knd x.1 = 1 then
      let y := rnum s x.2.1 0 1
      let l := rdIds s y.2.1 y.2.2 y.1
      let e := endv s l.2.1 l.2.2
      if e ≠ 0 then z e else if chk x.1 y.1 ByteArray.empty ≠ 0 then z (chk x.1 y.1 ByteArray.empty) else ⟨0, x.1, l.1, ByteArray.empty⟩
    else
      let t := rtext s x.2.1 0 65535
      let e := endv s t.2.1 t.2.2
      if e ≠ 0 then z e else if chk x.1 0 t.1 ≠ 0 then z (chk x.1 0 t.1) else ⟨0, x.1, [], t.1⟩
/-- What both answer. -/
def OfPost (w : World) (s : ByteArray) (en : Ending) (w' : World) : Prop :=
  ∃ va vc, en = .returned (.tuple #[.agg #[.int .i64 (ofv s).K, .slice va (ofv s).ids.length vc, .string (ofv s).B], .int .i64 (ofv s).e]) ∧ Own w' (.slice va (ofv s).ids.length vc) (ofv s).ids ∧ (∀ y, (Value.slice va (ofv s).ids.length vc).ownBlock = some y → w.heap.size ≤ y) ∧ Keep (fun _ => False) w w'
theorem post_z {w : World} {s : ByteArray} {e : Int} (h : ofv s = ⟨e, 0, [], ByteArray.empty⟩) {en : Ending} {w' : World} (hh : en = .returned (mz e) ∧ Keep (fun _ => False) w w') : OfPost w s en w' := by
  unfold OfPost
  rw [h]
  exact ⟨none, 0, hh.1, Own.nil _, fun y hy => by simp [Value.ownBlock] at hy, hh.2⟩
theorem of_both (w : World) (s : ByteArray) : Calls Try.prog 12 #[.string s] w (OfPost w s) ∧ Calls Try.prog 13 #[.string s] w (OfPost w s) := by
  by_cases h1 : 1024 < s.size
  · have e : ofv s = ⟨3, 0, [], ByteArray.empty⟩ := by unfold ofv; simp only [if_pos h1]
    exact ⟨(of_long w s h1).mono fun _ _ => post_z e, (rof_long w s h1).mono fun _ _ => post_z e⟩
  · have h1' : s.size ≤ 1024 := by omega
    obtain ⟨p, hp⟩ : ∃ p, rnum s 0 0 1 = p := ⟨_, rfl⟩
    obtain ⟨n, a1, b1⟩ := p
    by_cases h2 : b1 = 0
    · subst h2
      rcases knd_or (n : Int) with hk | hk | hk
      · have e : ofv s = ⟨10, 0, [], ByteArray.empty⟩ := by unfold ofv; simp only [if_neg h1, hp, ne_eq, not_true_eq_false, if_false, hk, if_true]
        exact ⟨(of_kind w s h1' n a1 hp hk).mono fun _ _ => post_z e, (rof_kind w s h1' n a1 hp hk).mono fun _ _ => post_z e⟩
      · obtain ⟨q, hq⟩ : ∃ q, rnum s a1 0 1 = q := ⟨_, rfl⟩
        obtain ⟨n2, a2, b2⟩ := q
        have hne : ¬ knd (n : Int) = 0 := by omega
        have e : ofv s = (let l := rdIds s a2 b2 n2; let e := endv s l.2.1 l.2.2; if e ≠ 0 then ⟨e, 0, [], ByteArray.empty⟩ else if chk n n2 ByteArray.empty ≠ 0 then ⟨chk n n2 ByteArray.empty, 0, [], ByteArray.empty⟩ else ⟨0, n, l.1, ByteArray.empty⟩) := by
          unfold ofv; simp only [if_neg h1, hp, hq, ne_eq, not_true_eq_false, if_false, if_neg hne, if_pos hk]
        by_cases he : endv s (rdIds s a2 b2 n2).2.1 (rdIds s a2 b2 n2).2.2 = 0
        · by_cases hc : chk n n2 ByteArray.empty = 0
          · have e2 : ofv s = ⟨0, n, (rdIds s a2 b2 n2).1, ByteArray.empty⟩ := by rw [e]; simp only [he, hc, ne_eq, not_true_eq_false, if_false]
            constructor
            · refine (of_ids_ok w s h1' n a1 n2 a2 b2 hp hk hq he hc).mono fun en w' => ?_
              rintro ⟨va, vc, h⟩
              unfold OfPost
              rw [e2]
              simp only [rdIds_len]
              exact ⟨va, vc, h⟩
            · refine (rof_ids_ok w s h1' n a1 n2 a2 b2 hp hk hq he hc).mono fun en w' => ?_
              rintro ⟨va, vc, h⟩
              unfold OfPost
              rw [e2]
              simp only [rdIds_len]
              exact ⟨va, vc, h⟩
          · have e2 : ofv s = ⟨chk n n2 ByteArray.empty, 0, [], ByteArray.empty⟩ := by rw [e]; simp only [he, ne_eq, not_true_eq_false, if_false, hc, not_false_eq_true, if_true]
            exact ⟨(of_ids_bad w s h1' n a1 n2 a2 b2 _ hp hk hq he rfl hc).mono fun _ _ => post_z e2, (rof_ids_bad w s h1' n a1 n2 a2 b2 _ hp hk hq he rfl hc).mono fun _ _ => post_z e2⟩
        · have e2 : ofv s = ⟨endv s (rdIds s a2 b2 n2).2.1 (rdIds s a2 b2 n2).2.2, 0, [], ByteArray.empty⟩ := by rw [e]; simp only [ne_eq, he, not_false_eq_true, if_true]
          exact ⟨(of_ids_end w s h1' n a1 n2 a2 b2 _ hp hk hq rfl he).mono fun _ _ => post_z e2, (rof_ids_end w s h1' n a1 n2 a2 b2 _ hp hk hq rfl he).mono fun _ _ => post_z e2⟩
      · obtain ⟨q, hq⟩ : ∃ q, rtext s a1 0 65535 = q := ⟨_, rfl⟩
        obtain ⟨x, a2, b2⟩ := q
        have hne : ¬ knd (n : Int) = 0 := by omega
        have hne1 : ¬ knd (n : Int) = 1 := by omega
        have e : ofv s = (let e := endv s a2 b2; if e ≠ 0 then ⟨e, 0, [], ByteArray.empty⟩ else if chk n 0 x ≠ 0 then ⟨chk n 0 x, 0, [], ByteArray.empty⟩ else ⟨0, n, [], x⟩) := by
          unfold ofv; simp only [if_neg h1, hp, hq, ne_eq, not_true_eq_false, if_false, if_neg hne, if_neg hne1]
        by_cases he : endv s a2 b2 = 0
        · by_cases hc : chk n 0 x = 0
          · have e2 : ofv s = ⟨0, n, [], x⟩ := by rw [e]; simp only [he, hc, ne_eq, not_true_eq_false, if_false]
            constructor
            · refine (of_body_ok w s h1' n a1 a2 x b2 hp hk hq he hc).mono fun en w' => ?_
              rintro ⟨h2, h3⟩
              unfold OfPost
              rw [e2]
              exact ⟨none, 0, h2, Own.nil _, fun y hy => by simp [Value.ownBlock] at hy, h3⟩
            · refine (rof_body_ok w s h1' n a1 a2 x b2 hp hk hq he hc).mono fun en w' => ?_
              rintro ⟨h2, h3⟩
              unfold OfPost
              rw [e2]
              exact ⟨none, 0, h2, Own.nil _, fun y hy => by simp [Value.ownBlock] at hy, h3⟩
          · have e2 : ofv s = ⟨chk n 0 x, 0, [], ByteArray.empty⟩ := by rw [e]; simp only [he, ne_eq, not_true_eq_false, if_false, hc, not_false_eq_true, if_true]
            exact ⟨(of_body_bad w s h1' n a1 a2 x b2 _ hp hk hq he rfl hc).mono fun _ _ => post_z e2, (rof_body_bad w s h1' n a1 a2 x b2 _ hp hk hq he rfl hc).mono fun _ _ => post_z e2⟩
        · have e2 : ofv s = ⟨endv s a2 b2, 0, [], ByteArray.empty⟩ := by rw [e]; simp only [ne_eq, he, not_false_eq_true, if_true]
          exact ⟨(of_body_end w s h1' n a1 a2 x b2 _ hp hk hq rfl he).mono fun _ _ => post_z e2, (rof_body_end w s h1' n a1 a2 x b2 _ hp hk hq rfl he).mono fun _ _ => post_z e2⟩
    · have e : ofv s = ⟨b1, 0, [], ByteArray.empty⟩ := by unfold ofv; simp only [if_neg h1, hp, ne_eq, h2, not_false_eq_true, if_true]
      exact ⟨(of_short w s h1' n a1 b1 hp h2).mono fun _ _ => post_z e, (rof_short w s h1' n a1 b1 hp h2).mono fun _ _ => post_z e⟩
end Ms
end Go.Proofs.Ytmnmemeldjbifaa
