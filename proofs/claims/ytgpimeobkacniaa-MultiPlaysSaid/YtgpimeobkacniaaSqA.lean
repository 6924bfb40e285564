/-
  petrellaw25.awake.
-/
import Derived.Test.YtgpimeobkacniaaSq9
set_option linter.unusedVariables false
set_option linter.unusedSimpArgs false
namespace Go.Proofs.Ytgpimeobkacniaa
open Go.RowKit
namespace Sq
open Oct Ids Mp
open Mem (M It blk ids rows)
theorem widen {F S : Nat → Prop} {w w1 w' : World} {l : List It} (h : M S w1 w' l) (k : Keep F w w1) (hs : ∀ j, S j → w.heap.size ≤ j) : M F w w' l :=
  ⟨h.all, h.dis, fun i x hi j hj => ⟨.inl (by
    rcases (h.rng i x hi j hj).1 with h1 | h1
    · have := k.size; omega
    · exact hs _ h1), (h.rng i x hi j hj).2⟩, k.trans' h.keep (fun _ _ h => h) (fun j hj e => by have := hs j e; omega)⟩
def u1 : List UInt8 := 1 :: List.replicate 31 0
def u2 : List UInt8 := 2 :: List.replicate 31 0
def x1 : Nd := ⟨1, Zi, rfl, ⟨#[97]⟩⟩
def x2 : Nd := ⟨2, u1, rfl, ⟨#[98]⟩⟩
def N1 : Nds := [(u1, x1)]
def N2 : Nds := [(u1, x1), (u2, x2)]
def B1 (v : Value) : Bhs := [(Zi, (v, [u1]))]
def B2 (v v' : Value) : Bhs := [(Zi, (v, [u1])), (u1, (v', [u2]))]
theorem rows_Z (v v' : Value) : rowsB (B2 v v') Zi = [u1] := rfl
theorem rows_1 (v v' : Value) : rowsB (B2 v v') u1 = [u2] := rfl
theorem rows_2 (v v' : Value) : rowsB (B2 v v') u2 = [] := rfl
theorem dep_2 (v v' : Value) : Dep (rowsB (B2 v v')) 2 Zi := by
  intro x hx
  rw [rows_Z] at hx
  obtain rfl := List.mem_singleton.1 hx
  intro y hy
  rw [rows_1] at hy
  obtain rfl := List.mem_singleton.1 hy
  exact rows_2 v v'
theorem pre_2 (v v' : Value) : pre (rowsB (B2 v v')) 3 Zi = [u1, u2] := by
  simp only [pre, rows_Z, rows_1, rows_2, List.flatMap_cons, List.flatMap_nil, List.append_nil]
theorem hB2 (v v' : Value) : ∀ p ∈ B2 v v', p.2.2.length ≤ 1000 := by
  intro p hp
  unfold B2 at hp
  simp only [List.mem_cons, List.not_mem_nil, or_false] at hp
  rcases hp with rfl | rfl <;> simp
theorem lst_2 : lst N2 [] [u1, u2] = [⟨#[97]⟩, ⟨#[98]⟩] := by rfl
theorem ins_1 (w : World) (b bn bb bg : Nat) (h : SqAt w b bn bb bg [] [] []) : Calls Try.prog 48 #[.pointer (some ⟨b, 0, none⟩), idv u1, .int .i64 1, idv Zi, .string ⟨#[97]⟩] w fun e w' => e = .returned (.int .i64 0) ∧ ∃ v, STo w w' b bn bb bg [] N1 (B1 v) [] :=
  (insert_any w b bn bb bg [] [] [] h (fun p hp => by cases hp) u1 rfl x1 (by unfold maxLen; exact Nat.le_trans (by decide : x1.v.size ≤ 1) (by omega))).mono fun e w' ⟨h1, h2⟩ => by
    have hc : chk u1 x1 = 0 := by decide
    rw [hc] at h1
    rw [if_pos ⟨hc, by simp⟩] at h2
    exact ⟨h1, h2⟩
theorem ins_2 (w : World) (b bn bb bg : Nat) (v : Value) (h : SqAt w b bn bb bg N1 (B1 v) []) : Calls Try.prog 48 #[.pointer (some ⟨b, 0, none⟩), idv u2, .int .i64 2, idv u1, .string ⟨#[98]⟩] w fun e w' => e = .returned (.int .i64 0) ∧ ∃ v', STo w w' b bn bb bg (B1 v) N2 (B2 v v') [] :=
  (insert_any w b bn bb bg N1 (B1 v) [] h (fun p hp => by obtain rfl := List.mem_singleton.1 hp; simp) u2 rfl x2 (by unfold maxLen; exact Nat.le_trans (by decide : x2.v.size ≤ 1) (by omega))).mono fun e w' ⟨h1, h2⟩ => by
    have hc : chk u2 x2 = 0 := by decide
    rw [hc] at h1
    rw [if_pos ⟨hc, by decide⟩] at h2
    exact ⟨h1, h2⟩
theorem lis_2 (w : World) (b bn bb bg : Nat) (v v' : Value) (h : SqAt w b bn bb bg N2 (B2 v v') []) : Calls Try.prog 40 #[.pointer (some ⟨b, 0, none⟩)] w fun e w' => ∃ q, e = .returned q ∧ M (foot b bn bb bg (B2 v v')) w w' [sqI b bn bb bg N2 (B2 v v') [], Mem.rows 92 2 pe q [⟨#[97]⟩, ⟨#[98]⟩]] :=
  (slist_any w b bn bb bg N2 (B2 v v') [] h (fun r => rowsB_len (hB2 v v') r) 2 (dep_2 v v') (by rw [pre_2]; simp)).mono fun e w' ⟨q, h1, h2⟩ => by
    rw [pre_2, lst_2] at h2
    exact ⟨q, h1, h2⟩
theorem bu1 : Try.prog.built 35 [(0, .int .u8 1)] = some (u1.map bv).toArray := by kernel_rfl
theorem bu2 : Try.prog.built 35 [(0, .int .u8 2)] = some (u2.map bv).toArray := by kernel_rfl
set_option maxRecDepth 100000 in
set_option maxHeartbeats 4000000 in
theorem awakeS (w : World) : Calls Try.prog 12 #[] w fun e w' => e = .returned (.bool true) ∧ Keep (fun _ => False) w w' := by
  have HM : Hid (M (fun _ => False) w w []) := M.start _ w
  go_enter Try.func12, Try.ntmps12
  go_wp2_with (first | (go_at_call 13; refine (snew _).mono ?_; rintro e w1 ⟨b, bn, bb, bg, rfl, m1⟩; have HM : Hid _ := m1; clear m1) | (refine St.wl_buildV (T := 35) (parts := #[]) rfl rfl (cs := z32) (by kernel_rfl) ?_; simp only [Act.put, List.setIfInBounds_toArray, List.set_cons_zero, List.set_cons_succ]) | (refine wl_buildL rfl rfl [(0, .int .u8 1)] rfl (cs := (u1.map bv).toArray) bu1 ?_; simp only [Act.put, List.setIfInBounds_toArray, List.set_cons_zero, List.set_cons_succ]) | (refine wl_buildL rfl rfl [(0, .int .u8 2)] rfl (cs := (u2.map bv).toArray) bu2 ?_; simp only [Act.put, List.setIfInBounds_toArray, List.set_cons_zero, List.set_cons_succ]) | (go_at_call 48; refine (ins_1 _ b bn bb bg (HM.out.get 0 rfl)).mono ?_; rintro e w2 ⟨rfl, v2, t2⟩; have HM : Hid _ := M.sto HM.out 0 rfl t2; clear t2) | (go_at_call 48; refine (ins_2 _ b bn bb bg v2 (HM.out.get 0 rfl)).mono ?_; rintro e w3 ⟨rfl, v3, t3⟩; have HM : Hid _ := M.sto HM.out 0 rfl t3; clear t3) | (go_at_call 40; refine (lis_2 _ b bn bb bg v2 v3 (HM.out.get 0 rfl)).mono ?_; rintro e w4 ⟨q, rfl, m4⟩; have hfo := HM.out.rng 0 _ rfl; have HM : Hid _ := widen m4 HM.out.keep (fun j hj => (hfo j hj).1.resolve_right (fun h => h)); clear m4 hfo; obtain ⟨qa, qc, eq, qat⟩ := (show St.Own 92 2 pe w4 q _ from HM.out.get 1 rfl).any; subst eq; obtain ⟨g0, o0, e0, _, hr0⟩ := qat.lay.resolve_left (by simp); subst e0; have d1 : w4.cell? ⟨g0, o0 + 0 * 2 + 1, none⟩ = some (.string ⟨#[97]⟩) := hr0 0 _ rfl 1 _ rfl; have d3 : w4.cell? ⟨g0, o0 + 1 * 2 + 1, none⟩ = some (.string ⟨#[98]⟩) := hr0 1 _ rfl 1 _ rfl; clear hr0 qat) | (go_at_call 42; refine (slen _ b bn bb bg N2 (B2 v2 v3) [] (HM.out.get 0 rfl)).mono ?_; rintro e w5 ⟨rfl, rfl⟩))
  go_ret
  exact ⟨rfl, HM.out.keep⟩
end Sq
end Go.Proofs.Ytgpimeobkacniaa
