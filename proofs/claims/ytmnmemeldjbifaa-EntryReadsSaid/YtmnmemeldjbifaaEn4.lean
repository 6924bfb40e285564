/-
  entry.Put and petrelref14.Put.
-/
import Derived.Test.YtmnmemeldjbifaaEn3
import Derived.Test.YtmnmemeldjbifaaWr
import Derived.Test.YtmnmemeldjbifaaIds3
set_option linter.unusedVariables false
set_option linter.unusedSimpArgs false
namespace Go.Proofs.Ytmnmemeldjbifaa
open Go.RowKit
namespace En
open Oct Ids Ms OctW
open Tp (tk)

theorem info_e : (Try.prog.info? 43).map (·.size) = some 35 := by kernel_rfl
theorem ec_len (K : Int) (T B : ByteArray) (c : List UInt8) (hc : c.length = 32) : (ec K T B c).length = 35 := by unfold ec; simp [hc]
section
variable {ops : Array Oper} {rest : List Oper} {op : Oper} {a : Act} {w : World} {Q : Exit → Act → World → Prop}
/-- 'load an entry', guarded or not. -/
theorem wl_loadE (hw : Region.wanted op (yielded ops a.tmps) = true) {x : Operand} (ho : op.op = .load 43 x) {b : Nat} (hx : a.eval x = .pointer (some ⟨b, 0, none⟩)) {K : Int} {T B : ByteArray} {c : List UInt8} (hE : EAt w b K T B c)
    (h : wpList Try.prog ops Q rest (a.put op.dst (.agg (ec K T B c).toArray)) w) : wpList Try.prog ops Q (op :: rest) a w :=
  wpList_step fun K hK => by
    rw [if_pos hw]
    exact wp_load_mid _ x ho b 0 hx _ _ hE.all Try.underlying43 rfl (by rw [info_e, ec_len _ _ _ _ hE.len]) (hK _ _ h)
end
/-- The bytes of an entry. -/
def en (K : Int) (T B : ByteArray) (c : List UInt8) : List UInt8 := be 1 K ++ ((if pT K = true then be 1 T.size ++ T.data.toList else []) ++ ((if pC K = true then c else []) ++ B.data.toList))
set_option maxRecDepth 100000 in
theorem put_bad (w : World) (K : Int) (T B : ByteArray) (c : List UInt8) (hc : c.length = 32) (hT : T.size ≤ maxLen) (hB : B.size ≤ maxLen) (h : ck K T B c ≠ 0) :
    Calls Try.prog 21 #[.agg (ec K T B c).toArray] w fun e w' => e = .returned (.tuple #[.string ByteArray.empty, .int .i64 (ck K T B c)]) ∧ Keep (fun _ => False) w w' := by
  have h' : (ck K T B c != 0) = true := by simpa using h
  have Hk : Hid (∀ w, _) := fun w => check_any w K T B c hc hT hB
  have E0 : Hid _ := EAt.new (K := K) (T := T) (B := B) w hc
  generalize ck K T B c = v at Hk h' ⊢
  clear h
  go_enter Try.func21, Try.ntmps21
  go_wp2_with (first | (go_at_call 23; refine (Hk.out _).mono ?_; rintro e w1 ⟨rfl, k1⟩; have K1 : Hid _ := k1; clear k1) | (refine wl_loadE (by rfl) rfl rfl E0.out ?_; simp only [Act.put, List.setIfInBounds_toArray, List.set_cons_zero, List.set_cons_succ]))
  go_ret2
  exact ⟨rfl, ((Keep.refl _ _).alloc _).trans K1.out⟩
set_option maxRecDepth 100000 in
theorem rput_bad (w : World) (K : Int) (T B : ByteArray) (c : List UInt8) (hc : c.length = 32) (hT : T.size ≤ maxLen) (hB : B.size ≤ maxLen) (h : ck K T B c ≠ 0) :
    Calls Try.prog 22 #[.agg (ec K T B c).toArray] w fun e w' => e = .returned (.tuple #[.string ByteArray.empty, .int .i64 (ck K T B c)]) ∧ Keep (fun _ => False) w w' := by
  have h' : (ck K T B c != 0) = true := by simpa using h
  have Hk : Hid (∀ w, _) := fun w => rcheck_any w K T B c hc hT hB
  have E0 : Hid _ := EAt.new (K := K) (T := T) (B := B) w hc
  generalize ck K T B c = v at Hk h' ⊢
  clear h
  go_enter Try.func22, Try.ntmps22
  go_wp2_with (first | (go_at_call 24; refine (Hk.out _).mono ?_; rintro e w1 ⟨rfl, k1⟩; have K1 : Hid _ := k1; clear k1) | (refine wl_loadE (by rfl) rfl rfl E0.out ?_; simp only [Act.put, List.setIfInBounds_toArray, List.set_cons_zero, List.set_cons_succ]))
  go_ret2
  exact ⟨rfl, ((Keep.refl _ _).alloc _).trans K1.out⟩
end En
end Go.Proofs.Ytmnmemeldjbifaa
