/-
  petrelref08.Check. petrelref08: num, raw, Put. petrelref08.Ident; both by one law.
-/
import Derived.Test.YthllhjdaknmlbaaDoorGHb
import Derived.Test.YthllhjdaknmlbaaDoorGTp
import Derived.Test.YthllhjdaknmlbaaDoorGRd
import Derived.Test.YthllhjdaknmlbaaDoorGId
import Derived.Test.YthllhjdaknmlbaaDoorGOp
import Derived.Test.YthllhjdaknmlbaaDoorGS2
set_option linter.unusedVariables false
set_option linter.unusedSimpArgs false

namespace Go.Proofs.YthllhjdaknmlbaaDoor
open Go.RowKit
namespace Hd
open Oct Ids Gn
open Mem (M blk)
open Tp (tk)

theorem ck_eq (n : Nat) (l : List (List UInt8)) (G : Int) (T : ByteArray) (A Q Z : Int) : ck n l G T A Q Z = (if 4 < n then 6 else if isL l = false then 4 else if G < 1 ∨ 1073741824 < G then 12 else if ((n == 0) != (G == 1)) = true then 12 else if tk T = 0 then 9 else if A < 0 ∨ 255 < A then 5 else if Q < 1 ∨ 1073741824 < Q then 5 else if Z < 1 ∨ 512 < Z then 5 else 0) := by
  unfold ck kl k1 k3 k4 k5 k6 k7 k8
  simp only [fb, decide_eq_true_eq, Bool.not_eq_true']
end Hd
end Go.Proofs.YthllhjdaknmlbaaDoor


namespace Go.Proofs.YthllhjdaknmlbaaDoor
open Go.RowKit
namespace Hd
open Oct Ids Gn
open OctRd (be_len)
open Mem
open Tp (tk)

theorem bsz (l : List UInt8) (k : Nat) (h : l.length = k) (B : ByteArray) (hB : (⟨l.toArray⟩ : ByteArray) = B) : B.size = k := by rw [← hB, Byt.arr_size, h]
theorem bls (l : List UInt8) (B : ByteArray) (hB : (⟨l.toArray⟩ : ByteArray) = B) : B.data.toList = l := by rw [← hB]
theorem ob_of {S : ByteArray} {x : List UInt8} (h : S.data.toList = x) : S = ⟨x.toArray⟩ := by rw [← h]
end Hd
end Go.Proofs.YthllhjdaknmlbaaDoor


namespace Go.Proofs.YthllhjdaknmlbaaDoor
open Go.RowKit
namespace Hd
open Oct Ids Gn OctW
open Mem (M blk)

theorem ident_any (w : World) (hF : Sha.TabF w) (hK : Sha.TabK w) (a : Option Addr) (n c : Nat) (l : List (List UInt8)) (G : Int) (T : ByteArray) (A Q Z : Int) (m : List UInt8) (h : At w a n l) (hm : m.length = 32) (hn : n ≤ 1000000) (hT : T.size ≤ maxLen) :
    Calls Tryd.prog 18 #[.agg (hd (.slice a n c) G T A Q Z m).toArray] w fun e w' => e = .returned (.tuple #[idv (iv n l G T A Q Z m), .int .i64 (ck n l G T A Q Z)]) ∧ Keep (fun _ => False) w w' := by
  by_cases hc : ck n l G T A Q Z = 0
  · rw [show iv n l G T A Q Z m = Sha.sum (hb n l G T A Q Z m) from if_pos hc, hc]
    exact ident_ok w hF hK a n c l G T A Q Z m h hm hc
  · rw [show iv n l G T A Q Z m = Z32 from if_neg hc]
    exact ident_bad w a n c l G T A Q Z m h hm hn hT _ rfl hc
theorem iv_len (n : Nat) (l : List (List UInt8)) (G : Int) (T : ByteArray) (A Q Z : Int) (m : List UInt8) : (iv n l G T A Q Z m).length = 32 := by
  unfold iv
  split
  · exact Sha.sum_len _
  · rfl
end Hd
end Go.Proofs.YthllhjdaknmlbaaDoor
