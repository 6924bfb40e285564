/-
  petrellaw14's awake; an entry that came in.
-/
import Derived.Test.YtmnmemeldjbifaaEn8
import Derived.Test.YtmnmemeldjbifaaOpnT
set_option linter.unusedVariables false
set_option linter.unusedSimpArgs false
namespace Go.Proofs.Ytmnmemeldjbifaa
open Go.RowKit
namespace En
open Oct Ids Ms
open Mem (M blk byt rd xr)
open Go.ChangeShapes Go.WideShapes Go.ChangeAt

def CA : ByteArray := ⟨#[99, 97]⟩
def SCA : ByteArray := ⟨#[5, 2, 99, 97]⟩
set_option maxRecDepth 100000 in
theorem awake_true (w : World) : Calls Try.prog 20 #[] w fun e w' => e = .returned (.bool true) ∧ Keep (fun _ => False) w w' := by
  have e1 : pv 5 CA ByteArray.empty Z32 = SCA := by decide +kernel
  have e2 : ck 5 CA ByteArray.empty Z32 = 0 := by decide +kernel
  have e3 : (ofe SCA).e = 0 := by decide +kernel
  have e4 : (ofe SCA).T = CA := by decide +kernel
  have e5 : (ofe SCA).c.length = 32 := by decide +kernel
  have Hp : Hid (∀ w, _) := fun w => put_any w 5 CA ByteArray.empty Z32 rfl (by decide) (by decide)
  have Ho : Hid (∀ w, _) := fun w => ofE_any w SCA (by decide)
  unfold ev at Ho
  rw [e1, e2] at Hp
  rw [e3, e4] at Ho
  have Hl : Hid _ := e5
  have q1 : SCA.toList = [5, 2, 99, 97] := by decide +kernel
  have q2 : CA.toList = [99, 97] := by decide +kernel
  clear e1 e2 e3 e4 e5
  generalize (ofe SCA).K = K at Ho
  generalize (ofe SCA).B = B at Ho
  generalize (ofe SCA).c = c at Ho Hl
  go_enter Try.func20, Try.ntmps20
  go_wp2_with (first | (go_at_call 21; refine (Hp.out _).mono ?_; rintro e w1 ⟨rfl, k1⟩; have K1 : Hid _ := k1; clear k1) | (go_at_call 25; refine (Ho.out _).mono ?_; rintro e w2 ⟨rfl, k1⟩; have K2 : Hid _ := k1; clear k1) | (refine St.wl_alloc stE rfl rfl (by (try simp only [World.size_alloc]); rfl) ?_; simp only [Act.put, List.setIfInBounds_toArray, List.set_cons_zero, List.set_cons_succ]) | (refine St.wl_storeN stE rfl rfl rfl rfl rfl (by (try simp only [World.size_alloc])) (show _ = Value.agg (ec K CA B c).toArray from rfl) (ec_sz Hl.out) (ec_sz rfl) (ec_one _ _ _ _) ?_; have HE : Hid _ := EAt.new (K := K) (T := CA) (B := B) w2 Hl.out; obtain ⟨g0, g1, g2⟩ := HE.out.cells))
  go_ret
  exact ⟨rfl, (K1.out.trans K2.out).alloc _⟩
/-- An entry that came in. -/
abbrev OEn := Int × ByteArray × ByteArray × List UInt8 × Unit
def layE (x : OEn) : List Value := ec x.1 x.2.1 x.2.2.1 x.2.2.2.1
def factE (x : OEn) : Prop := x.2.1.size ≤ maxLen ∧ x.2.2.1.size ≤ maxLen ∧ x.2.2.2.1.length = 32
theorem rdE : Opn.Rd Try.prog 43 35 layE (fun _ x => factE x) (fun x => x.2.2.1.size) := by
  have h := Opn.rd_struct (T := 43) Try.underlying43 (by kernel_rfl) (Opn.rdf_cons Opn.rd_i rfl (Opn.rdf_cons Opn.rd_s rfl (Opn.rdf_cons Opn.rd_s rfl (Opn.rdf_cons Opn.rd_id rfl Opn.rdf_nil))))
  refine ⟨h.size, fun W x hx => by unfold layE; exact ec_len _ _ _ _ hx.2.2, fun H enc W fuel cs y hy => ?_, fun W W' x hl hx => hx⟩
  obtain ⟨x, e, ⟨_, f2, f3, f4, _⟩, b⟩ := h.op H enc W fuel cs y hy
  refine ⟨x, by rw [e]; simp [layE, ec], ⟨f2, f3, f4⟩, ?_⟩
  have b' : 1 + (x.2.1.size + 1 + (x.2.2.1.size + 1 + (32 + 0))) + 1 ≤ Rows.uptoBulk y.1 := b
  omega
end En
end Go.Proofs.Ytmnmemeldjbifaa
