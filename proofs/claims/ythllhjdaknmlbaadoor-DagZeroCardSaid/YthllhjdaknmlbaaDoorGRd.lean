/-
  Contracts of the reader's methods. Contracts of the document's answer for layer 1: numbers and texts as bytes; its reader. Contracts of the document's reader. The reader answers as the document's own does: plain law.
-/
import Derived.Test.YthllhjdaknmlbaaDoorGOc
import Derived.IntWalk
import Derived.Handy
set_option linter.unusedVariables false
set_option linter.unusedSimpArgs false

namespace Go.Proofs.YthllhjdaknmlbaaDoor
open Go.RowKit
namespace Oct

end Oct
end Go.Proofs.YthllhjdaknmlbaaDoor

namespace Go.Proofs.YthllhjdaknmlbaaDoor
open Go.RowKit
namespace Oct

/-- What 'Raw' answers, and leaves. -/
def rraw (s : ByteArray) (at_ : Nat) (bad n : Int) : ByteArray × Nat × Int :=
  if bad ≠ 0 then (ByteArray.empty, at_, bad) else if n < 0 then (ByteArray.empty, at_, 1) else if (s.size : Int) - at_ < n then (ByteArray.empty, at_, 2) else (s.extract at_ (at_ + n.toNat), at_ + n.toNat, 0)

/-- The number of bytes, the highest first. -/
def natOf (l : List UInt8) : Nat := l.foldl (fun n c => 256 * n + c.toNat) 0
theorem natOf_snoc (l : List UInt8) (c : UInt8) : natOf (l ++ [c]) = 256 * natOf l + c.toNat := by simp [natOf, List.foldl_append]
theorem natOf_lt' : ∀ (l : List UInt8) (a n : Nat), a < 256 ^ n → l.foldl (fun n c => 256 * n + c.toNat) a < 256 ^ (n + l.length)
  | [], _, _, h => h
  | c :: l, a, n, h => by
    have := natOf_lt' l (256 * a + c.toNat) (n + 1) (by rw [Nat.pow_succ]; have := c.toNat_lt; omega)
    rw [List.length_cons, show n + (l.length + 1) = n + 1 + l.length from by omega]
    exact this
theorem natOf_lt (l : List UInt8) : natOf l < 256 ^ l.length := by
  have := natOf_lt' l 0 0 (by simp)
  rw [Nat.zero_add] at this
  exact this
end Oct
end Go.Proofs.YthllhjdaknmlbaaDoor

namespace Go.Proofs.YthllhjdaknmlbaaDoor
open Go.RowKit
namespace Oct

def rnum (s : ByteArray) (at_ : Nat) (bad k : Int) : Nat × Nat × Int :=
  if bad ≠ 0 then (0, at_, bad) else if nbits k = 0 then (0, at_, 1) else (natOf (rraw s at_ 0 k).1.data.toList, (rraw s at_ 0 k).2.1, (rraw s at_ 0 k).2.2)

theorem or_i64 (a b : Nat) (ha : a < 4611686018427387904) (hb : b < 4611686018427387904) : bits .or .i64 (a : Int) (b : Int) = ((a ||| b : Nat) : Int) := by
  have hx : a ||| b < 2 ^ 62 := Nat.or_lt_two_pow (by omega) (by omega)
  show IntKind.i64.wrap ((BitVec.ofInt 64 (a : Int) ||| BitVec.ofInt 64 (b : Int)).toNat : Int) = _
  rw [BitVec.toNat_or, ofInt_u64 a (by omega), ofInt_u64 b (by omega), IntKind.wrap_i64]
  omega
theorem shl_or (m c : Nat) (hm : m < 16777216) (hc : c < 256) : bits .or .i64 ((m : Int) * 256) (c : Int) = ((256 * m + c : Nat) : Int) := by
  have e : m <<< 8 + c = m <<< 8 ||| c := Nat.shiftLeft_add_eq_or_of_lt (by omega) m
  rw [Nat.shiftLeft_eq] at e
  rw [show ((m : Int) * 256) = ((m * 2 ^ 8 : Nat) : Int) from by simp, or_i64 _ _ (by omega) (by omega), ← e]
  congr 1; omega

theorem rraw_size (s : ByteArray) (at_ : Nat) (k : Int) (hk : nbits k ≠ 0) : (rraw s at_ 0 k).1.size ≤ 4 := by
  unfold rraw
  rw [if_neg (by simp)]
  split
  · exact Nat.zero_le _
  · split
    · exact Nat.zero_le _
    · rw [ByteArray.size_extract]
      unfold nbits at hk
      have : k = 4 ∨ k = 2 ∨ k = 1 := by
        by_cases h4 : k = 4
        · omega
        by_cases h2 : k = 2
        · omega
        by_cases h1 : k = 1
        · omega
        simp [h4, h2, h1] at hk
      omega

/-- 'Text': what it answers, and leaves. -/
def rtext (s : ByteArray) (at_ : Nat) (bad most : Int) : ByteArray × Nat × Int :=
  let x := rnum s at_ bad 2
  if x.2.2 ≠ 0 then (ByteArray.empty, x.2.1, x.2.2) else if most < (x.1 : Int) then (ByteArray.empty, x.2.1, 3) else rraw s x.2.1 x.2.2 x.1

end Oct
end Go.Proofs.YthllhjdaknmlbaaDoor


namespace Go.Proofs.YthllhjdaknmlbaaDoor
open Go.RowKit
namespace Ref

theorem mk1 (u : World) : (Instr.makeSlice 81 (.int .i64 1) (.int .i64 1)).run Tryd.prog u = .ok (.slice (some ⟨u.heap.size, 0, none⟩) 1 1) (u.alloc (.cells #[.int .u8 0] 5)) := by kernel_rfl
theorem mk2 (u : World) : (Instr.makeSlice 81 (.int .i64 2) (.int .i64 2)).run Tryd.prog u = .ok (.slice (some ⟨u.heap.size, 0, none⟩) 2 2) (u.alloc (.cells #[.int .u8 0, .int .u8 0] 5)) := by kernel_rfl
theorem mk4 (u : World) : (Instr.makeSlice 81 (.int .i64 4) (.int .i64 4)).run Tryd.prog u = .ok (.slice (some ⟨u.heap.size, 0, none⟩) 4 4) (u.alloc (.cells #[.int .u8 0, .int .u8 0, .int .u8 0, .int .u8 0] 5)) := by kernel_rfl

theorem conv_new (w : World) (l : List UInt8) (cs : Array Value) (hcs : cs = (l.map Oct.bv).toArray) (n : Nat) (hn : n = l.length) (hl : l ≠ []) (hm : l.length ≤ 100) :
    (convert 81 9 (.slice (some ⟨w.heap.size, 0, none⟩) n n)).run Tryd.prog (w.alloc (.cells cs 5)) = .ok (.string ⟨l.toArray⟩) (w.alloc (.cells cs 5)) := by
  refine Oct.own_string _ l _ ⟨by simp, .inr ⟨w.heap.size, n, cs, ?_, Nat.zero_le _, heap_alloc_new w _, by omega, by unfold maxLen; omega, by rw [hcs]; simp; omega, ?_⟩⟩
  · rw [hn]
  · rw [hcs]; simp only [Nat.mul_one]; exact List.take_of_length_le (by simp)

theorem bv_mod (x : Int) : Value.int .u8 (x % 256) = Oct.bv (UInt8.ofNat (x % 256).toNat) := by
  have : (UInt8.ofNat (x % 256).toNat).toNat = (x % 256).toNat := by rw [UInt8.toNat_ofNat']; omega
  rw [Oct.bv, this]; congr 1; omega

/-- What the document's 'Num' answers. -/
def rn (n k : Int) : List UInt8 × Int := if Oct.nbits k = 0 then ([], 1) else if n < 0 ∨ 256 ^ (Oct.nbits k / 8).toNat ≤ n then ([], 5) else (Oct.be (Oct.nbits k / 8).toNat n, 0)

theorem nbits_zero {k : Int} (h : Oct.nbits k = 0) : k ≠ 1 ∧ k ≠ 2 ∧ k ≠ 4 :=
  ⟨fun e => by subst e; simp [Oct.nbits] at h, fun e => by subst e; simp [Oct.nbits] at h, fun e => by subst e; simp [Oct.nbits] at h⟩
theorem nbits_some {k : Int} (h : Oct.nbits k ≠ 0) : k = 1 ∨ k = 2 ∨ k = 4 := by
  unfold Oct.nbits at h
  by_cases h4 : k = 4
  · omega
  by_cases h2 : k = 2
  · omega
  by_cases h1 : k = 1
  · omega
  simp [h4, h2, h1] at h

/-- What the document's 'Text' answers. -/
def rt (s : ByteArray) : ByteArray × Int := if 65535 < s.size then (ByteArray.empty, 3) else (⟨(Oct.be 2 s.size).toArray⟩ ++ s, 0)

end Ref
end Go.Proofs.YthllhjdaknmlbaaDoor


namespace Go.Proofs.YthllhjdaknmlbaaDoor
open Go.RowKit
namespace Ref

def xraw (s : ByteArray) (e n : Int) : ByteArray × ByteArray × Int :=
  if e ≠ 0 then (ByteArray.empty, s, e) else if n < 0 then (ByteArray.empty, s, 1) else if (s.size : Int) < n then (ByteArray.empty, s, 2) else (s.extract 0 n.toNat, s.extract n.toNat s.size, 0)

def xnum (s : ByteArray) (e k : Int) : Nat × ByteArray × Int :=
  let e1 := if e = 0 ∧ Oct.nbits k = 0 then 1 else e
  let x := xraw s e1 (max 0 (min k 4))
  (Oct.natOf x.1.data.toList, x.2.1, x.2.2)

theorem xraw_size (s : ByteArray) (e k : Int) : (xraw s e (max 0 (min k 4))).1.size ≤ 4 := by
  unfold xraw
  split
  · exact Nat.zero_le _
  · split
    · exact Nat.zero_le _
    · split
      · exact Nat.zero_le _
      · rw [ByteArray.size_extract]; omega

def xtext (s : ByteArray) (e most : Int) : ByteArray × ByteArray × Int :=
  let x := xnum s e 2
  if x.2.2 ≠ 0 then (ByteArray.empty, x.2.1, x.2.2) else if most < (x.1 : Int) then (ByteArray.empty, x.2.1, 3) else xraw x.2.1 x.2.2 x.1

/-- What 'End' answers. -/
def xendv (s : ByteArray) (e : Int) : Int := if e = 0 then (if s.size = 0 then 0 else 4) else e
end Ref
end Go.Proofs.YthllhjdaknmlbaaDoor


namespace Go.Proofs.YthllhjdaknmlbaaDoor
open Go.RowKit
namespace OctRd
open Oct Ref

theorem ext_ext (s : ByteArray) (a n : Nat) (h : a + n ≤ s.size) : (s.extract a s.size).extract 0 n = s.extract a (a + n) := by
  rw [ByteArray.extract_extract]
  congr 1 <;> omega
theorem ext_ext2 (s : ByteArray) (a n : Nat) (h : a + n ≤ s.size) : (s.extract a s.size).extract n (s.extract a s.size).size = s.extract (a + n) s.size := by
  rw [ByteArray.extract_extract, ByteArray.size_extract]
  congr 1
  omega
theorem rraw_le (s : ByteArray) (a : Nat) (bad n : Int) (h : a ≤ s.size) : (rraw s a bad n).2.1 ≤ s.size := by
  unfold rraw
  split
  · exact h
  · split
    · exact h
    · split
      · exact h
      · simp only; omega
theorem rnum_le (s : ByteArray) (a : Nat) (bad n : Int) (h : a ≤ s.size) : (rnum s a bad n).2.1 ≤ s.size := by
  unfold rnum
  split
  · exact h
  · split
    · exact h
    · exact rraw_le s a 0 n h
theorem raw_law (s : ByteArray) (a : Nat) (bad n : Int) (h : a ≤ s.size) : xraw (s.extract a s.size) bad n = ((rraw s a bad n).1, s.extract (rraw s a bad n).2.1 s.size, (rraw s a bad n).2.2) := by
  unfold xraw rraw
  have hs : (s.extract a s.size).size = s.size - a := by rw [ByteArray.size_extract]; omega
  by_cases hb : bad = 0
  · by_cases hn : n < 0
    · simp [hb, hn]
    · by_cases hl : (s.size : Int) - a < n
      · have hl2 : ((s.extract a s.size).size : Int) < n := by rw [hs]; omega
        rw [if_neg (by simp [hb]), if_neg hn, if_pos hl2, if_neg (by simp [hb]), if_neg hn, if_pos hl]
      · have hl2 : ¬ ((s.extract a s.size).size : Int) < n := by rw [hs]; omega
        rw [if_neg (by simp [hb]), if_neg hn, if_neg hl2, if_neg (by simp [hb]), if_neg hn, if_neg hl, ext_ext s a n.toNat (by omega), ext_ext2 s a n.toNat (by omega)]
  · simp [hb]
theorem num_law (s : ByteArray) (a : Nat) (bad k : Int) (h : a ≤ s.size) : xnum (s.extract a s.size) bad k = ((rnum s a bad k).1, s.extract (rnum s a bad k).2.1 s.size, (rnum s a bad k).2.2) := by
  unfold xnum rnum
  by_cases hb : bad = 0
  · by_cases hk : nbits k = 0
    · simp only [hb, hk, and_self, if_true, ne_eq, not_true_eq_false, if_false]
      unfold xraw
      simp [natOf]
    · have hm : max 0 (min k 4) = k := by rcases nbits_some hk with rfl | rfl | rfl <;> decide
      simp only [hb, hk, and_false, if_false, ne_eq, not_true_eq_false, hm]
      rw [raw_law s a 0 k h]
  · simp only [hb, false_and, if_false, ne_eq, not_false_eq_true, if_true]
    unfold xraw
    simp [hb, natOf]
theorem text_law (s : ByteArray) (a : Nat) (bad m : Int) (h : a ≤ s.size) : xtext (s.extract a s.size) bad m = ((rtext s a bad m).1, s.extract (rtext s a bad m).2.1 s.size, (rtext s a bad m).2.2) := by
  unfold xtext rtext
  have hl := rnum_le s a bad 2 h
  rw [num_law s a bad 2 h]
  generalize rnum s a bad 2 = z at *
  obtain ⟨n, a2, b2⟩ := z
  simp only at hl ⊢
  by_cases hb : b2 = 0
  · by_cases hn : m < (n : Int)
    · simp [hb, hn]
    · simp only [hb, hn, ne_eq, not_true_eq_false, if_false]
      exact raw_law s a2 0 n hl
  · simp [hb]
theorem be_len : ∀ (m : Nat) (n : Int), (be m n).length = m
  | 0, _ => rfl
  | m + 1, n => by simp [be, be_len m]
theorem natOf_be : ∀ (m : Nat) (n : Int), 0 ≤ n → n < 256 ^ m → (natOf (be m n) : Int) = n
  | 0, n, h0, h => by simp at h; simp [be, natOf]; omega
  | m + 1, n, h0, h => by
    have hd : n / 256 < 256 ^ m := by
      rw [Int.pow_succ] at h
      omega
    have ih := natOf_be m (n / 256) (by omega) hd
    have e : be (m + 1) n = be m (n / 256) ++ [UInt8.ofNat (n % 256).toNat] := rfl
    rw [e, natOf_snoc]
    have hb : ((UInt8.ofNat (n % 256).toNat).toNat : Int) = n % 256 := by rw [UInt8.toNat_ofNat']; omega
    omega
theorem be_natOf : ∀ (m : Nat) (l : List UInt8), l.length = m → be m (natOf l) = l
  | 0, l, h => by simp [List.length_eq_zero_iff.1 h, be]
  | m + 1, l, h => by
    have hne : l ≠ [] := by intro e; simp [e] at h
    obtain ⟨l', c, rfl⟩ : ∃ l' c, l = l' ++ [c] := ⟨l.dropLast, l.getLast hne, (List.dropLast_concat_getLast hne).symm⟩
    have hl : l'.length = m := by simpa using h
    have hc : c.toNat < 256 := c.toNat_lt
    have e : ∀ n : Int, be (m + 1) n = be m (n / 256) ++ [UInt8.ofNat (n % 256).toNat] := fun _ => rfl
    rw [e, natOf_snoc]
    have h1 : ((256 * natOf l' + c.toNat : Nat) : Int) / 256 = (natOf l' : Int) := by omega
    have h2 : (((256 * natOf l' + c.toNat : Nat) : Int) % 256).toNat = c.toNat := by omega
    rw [h1, h2, be_natOf m l' hl]
    simp
end OctRd
end Go.Proofs.YthllhjdaknmlbaaDoor
