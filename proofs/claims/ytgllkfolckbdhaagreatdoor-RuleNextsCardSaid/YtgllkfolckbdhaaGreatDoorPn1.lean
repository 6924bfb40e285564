/-
  Waiters: how they lie; rows of them: IndexFunc, ContainsFunc, Grow, Concat.
-/
import Derived.Test.YtgllkfolckbdhaaGreatDoorHdF
import Derived.Test.YtgllkfolckbdhaaGreatDoorRows3
import Derived.Test.YtgllkfolckbdhaaGreatDoorGIf
set_option linter.unusedVariables false
set_option linter.unusedSimpArgs false
namespace Go.Proofs.YtgllkfolckbdhaaGreatDoor
open Go.RowKit
namespace Pn
open Oct Ids Gn Hd
open Mem (M blk)

/-- A header that waits. -/
structure Wt where
  a : Option Addr
  n : Nat
  c : Nat
  l : List (List UInt8)
  G : Int
  T : ByteArray
  A : Int
  Q : Int
  Z : Int
  m : List UInt8
  hm : m.length = 32
  id : List UInt8
  hid : id.length = 32
  fr : Int
def hv (x : Wt) : List Value := hd (.slice x.a x.n x.c) x.G x.T x.A x.Q x.Z x.m
def we (x : Wt) : List Value := hv x ++ (x.id.map bv ++ [.int .i64 x.fr])
theorem hv_len (x : Wt) : (hv x).length = 38 := hd_len _ _ _ _ _ _ _ x.hm
theorem W_enc : St.Enc 71 we := by
  refine ⟨fun x => ?_, fun x u hu => ?_⟩
  · unfold we
    rw [List.length_append, hv_len, List.length_append, List.length_map, x.hid]
    rfl
  · unfold we hv hd at hu
    simp only [List.mem_append, List.mem_cons, List.mem_map, List.not_mem_nil, or_false] at hu
    rcases hu with (((rfl | rfl | rfl | rfl | rfl | rfl) | ⟨y, _, rfl⟩) | ⟨y, _, rfl⟩ | rfl) <;> rfl
abbrev wz : Array Value := ((hd (.slice none 0 0) 0 ByteArray.empty 0 0 0 Z32) ++ (Z32.map bv ++ [Value.int .i64 0])).toArray
abbrev W_enc' := W_enc
/-- What is asked of a function value: it tells of each element what 'p' says, in whatever world stands behind this one. -/
def W_Tells (S : Nat → Prop) (w : World) (g : Nat) (bs ls : Array Value) (els : List Wt) (p : Wt → Bool) : Prop :=
  ∀ (w1 : World) (x : Wt), x ∈ els → Keep S w w1 → Calls Tryz.prog g (bs.push (.agg (we x).toArray) ++ ls) w1 fun e w2 => e = .returned (.bool (p x)) ∧ Keep (fun _ => False) w1 w2
end Pn
end Go.Proofs.YtgllkfolckbdhaaGreatDoor
