/-
  What two lists of one content have alike; '==' on nodes.
-/
import Derived.Test.YtgpimeobkacniaaSqM
set_option linter.unusedVariables false
set_option linter.unusedSimpArgs false
namespace Go.Proofs.Ytgpimeobkacniaa
open Go.RowKit
namespace Sq
open Oct Ids Mp Seg
open OctRd (be_len)
theorem gon_step2 {G Gd : List Wd} (h : Gon G Gd) (x : Ak) : Gon (stA G x) (stG Gd x) := by
  unfold stA stG
  by_cases hc : isI x
  · rw [if_pos hc, if_pos hc]
    exact h
  · rw [if_neg hc, if_neg hc]
    refine ⟨IdL.withL_srt h.srt _, fun u => ?_, ?_⟩
    · rw [IdL.mem_withL, h.mem]
      unfold addG
      split
      · rename_i hu
        exact ⟨fun h => h.elim (fun e => e ▸ hu) id, .inr⟩
      · rw [List.mem_append, List.mem_singleton]
        exact Or.comm
    · unfold addG
      split
      · exact h.nd
      · rename_i hu
        rw [List.nodup_append]
        refine ⟨h.nd, by simp, fun a ha b hb => ?_⟩
        rw [List.mem_singleton.1 hb]
        exact fun e => hu (e ▸ ha)
theorem rows_same {X : List Dn} {N1 N2 : Nds} {B1 B2 : Bhs} (h1 : Inv N1 B1) (a1 : Alk X N1) (h2 : Inv N2 B2) (a2 : Alk X N2) : rowsB B1 = rowsB B2 := funext fun r => by rw [← beh_row h1 a1, beh_row h2 a2]
theorem ordr_same {X : List Dn} {N1 N2 : Nds} {B1 B2 : Bhs} (h1 : Inv N1 B1) (a1 : Alk X N1) (h2 : Inv N2 B2) (a2 : Alk X N2) : ordr N1 B1 = ordr N2 B2 := by
  unfold ordr
  rw [rows_same h1 a1 h2 a2, ← a1.len, ← a2.len]
theorem vN_same {X : List Dn} {N1 N2 : Nds} {B1 B2 : Bhs} (h1 : Inv N1 B1) (a1 : Alk X N1) (h2 : Inv N2 B2) (a2 : Alk X N2) (y : Wd) : vN N1 y = vN N2 y := by
  have e : fget N1 y = fget N2 y := by
    cases he : fget N1 y with
    | some x =>
      have hm := fget_mem he
      have hm2 : (y, x) ∈ N2 := a2.perm.mem_iff.1 (a1.perm.mem_iff.2 hm)
      exact (fget_of h2.nk hm2).symm
    | none =>
      have hn := fget_none.1 he
      rw [← a1.keys, a2.keys] at hn
      exact (fget_none.2 hn).symm
  unfold vN
  rw [e]
theorem lst_same2 {X : List Dn} {N1 N2 : Nds} {B1 B2 : Bhs} {G1 G2 Gd : List Wd} (h1 : Inv N1 B1) (a1 : Alk X N1) (h2 : Inv N2 B2) (a2 : Alk X N2) (g1 : Gon G1 Gd) (g2 : Gon G2 Gd) : lst N1 G1 (ordr N1 B1) = lst N2 G2 (ordr N2 B2) := by
  unfold lst
  rw [ordr_same h1 a1 h2 a2]
  have e : (ordr N2 B2).filter (fun y => decide (y ∉ G1)) = (ordr N2 B2).filter (fun y => decide (y ∉ G2)) := List.filter_congr fun y _ => by
    have : y ∈ G1 ↔ y ∈ G2 := by rw [← g1.mem, g2.mem]
    simp only [this]
  rw [e]
  exact List.map_congr_left fun y _ => vN_same h1 a1 h2 a2 y
theorem put_size {X : List Dn} {G : List Wd} (hX : ∀ d ∈ X, d.x.v.size ≤ 16) (hG : ∀ u ∈ G, u.length = 32) (h1 : X.length ≤ 100) (h2 : G.length ≤ 100) : (⟨(putB X G).toArray⟩ : ByteArray).size ≤ 30000 := by
  rw [Byt.arr_size]
  unfold putB
  have e1 := nodes_len X hX
  have e2 := flat32 G hG
  simp only [List.length_append, be_len]
  omega
/-! '==' on nodes. -/
def eqD (d e : Dn) : Bool := d.u == e.u && (d.x.h == e.x.h && (d.x.r == e.x.r && d.x.v.toList == e.x.v.toList))
theorem eqD_of {d e : Dn} (h : eqD d e = true) : d = e := by
  unfold eqD at h
  simp only [Bool.and_eq_true, beq_iff_eq] at h
  obtain ⟨h1, h2, h3, h4⟩ := h
  obtain ⟨u, hu, ⟨x, r, hr, v⟩⟩ := d
  obtain ⟨u', hu', ⟨x', r', hr', v'⟩⟩ := e
  simp only at h1 h2 h3 h4
  subst h1 h2 h3
  have : v = v' := by
    have e1 : v.data.toList = v'.data.toList := by
      rw [← ByteArray.toList_eq, ← ByteArray.toList_eq, h4]
    exact ByteArray.ext (Array.toList_inj.1 e1)
  subst this
  rfl
theorem part_idD (xs : List Value) (k : Nat) (c : List UInt8) (h : (xs.drop k).take 32 = c.map bv) (w : World) : (part 35 xs.toArray k).run Try.prog w = .ok (idv c) w := by
  have hu := Try.underlying35
  have hsz := info32
  cases hq : Try.prog.info? 35 with
  | none => rw [hq] at hsz; cases hsz
  | some i =>
    have hs : i.size = 32 := by rw [hq] at hsz; simpa using hsz
    simp [part, isAgg, run_underlying hu, sizeOf, typeInfo, hq, hs, h]
theorem de_drop0 (d : Dn) : ((de d).drop 0).take 32 = d.u.map bv := by
  unfold de
  rw [List.drop_zero, List.take_left' (by rw [List.length_map, d.hu])]
theorem de_drop33 (d : Dn) : ((de d).drop 33).take 32 = d.x.r.map bv := by
  have e : de d = (d.u.map bv ++ [Value.int .i64 d.x.h]) ++ (d.x.r.map bv ++ [Value.string d.x.v]) := by unfold de ne; simp
  rw [e, List.drop_left' (by rw [List.length_append, List.length_map, d.hu]; rfl), List.take_left' (by rw [List.length_map, d.x.hr])]
theorem de_get32 (d : Dn) : (de d).toArray[32]? = some (.int .i64 d.x.h) := by
  rw [List.getElem?_toArray]
  unfold de
  rw [List.getElem?_append_right (by rw [List.length_map, d.hu]; exact Nat.le_refl _), List.length_map, d.hu]
  rfl
theorem de_get65 (d : Dn) : (de d).toArray[65]? = some (.string d.x.v) := by
  rw [List.getElem?_toArray]
  unfold de
  rw [List.getElem?_append_right (by rw [List.length_map, d.hu]; omega), List.length_map, d.hu]
  have := ne_val d.x
  rwa [List.getElem?_toArray] at this
theorem equalIn_D (w : World) (d e : Dn) : (Op.equalIn 10000 37 (.agg (de d).toArray) (.agg (de e).toArray)).run Try.prog w = .ok (eqD d e) w := by
  have hS : Try.prog.underlying 37 = some (.struct (Try.prog.fieldsOf 37)) := by kernel_rfl
  have hp : Try.prog.stoodInHeld 37 = false := by kernel_rfl
  have p1 := part_idD (de d) 0 d.u (de_drop0 d)
  have p2 := part_idD (de e) 0 e.u (de_drop0 e)
  have r1 := part_idD (de d) 33 d.x.r (de_drop33 d)
  have r2 := part_idD (de e) 33 e.x.r (de_drop33 e)
  have q1 : ∀ w, (Op.equalIn 9999 35 (idv d.u) (idv e.u)).run Try.prog w = .ok (d.u == e.u) w := fun w => run_equalIn_bytes (P := Try.prog) w 9997 35 5 32 Try.underlying35 Try.underlying5 sz8 d.u e.u d.hu e.hu
  have q2 : ∀ w, (Op.equalIn 9999 35 (idv d.x.r) (idv e.x.r)).run Try.prog w = .ok (d.x.r == e.x.r) w := fun w => run_equalIn_bytes (P := Try.prog) w 9997 35 5 32 Try.underlying35 Try.underlying5 sz8 d.x.r e.x.r d.x.hr e.x.hr
  have u3 := Try.underlying3
  have u9 := Try.underlying9
  have a3 : ∀ w, (isAgg 3).run Try.prog w = .ok false w := fun w => by simp [isAgg, run_underlying u3]
  have a9 : ∀ w, (isAgg 9).run Try.prog w = .ok false w := fun w => by simp [isAgg, run_underlying u9]
  have k0 : ∀ w, (part 3 (de d).toArray 32).run Try.prog w = .ok (.int .i64 d.x.h) w := fun w => by have := de_get32 d; rw [List.getElem?_toArray] at this; simp [part, a3, this]
  have k1 : ∀ w, (part 9 (de d).toArray 65).run Try.prog w = .ok (.string d.x.v) w := fun w => by have := de_get65 d; rw [List.getElem?_toArray] at this; simp [part, a9, this]
  have l0 : ∀ w, (part 3 (de e).toArray 32).run Try.prog w = .ok (.int .i64 e.x.h) w := fun w => by have := de_get32 e; rw [List.getElem?_toArray] at this; simp [part, a3, this]
  have l1 : ∀ w, (part 9 (de e).toArray 65).run Try.prog w = .ok (.string e.x.v) w := fun w => by have := de_get65 e; rw [List.getElem?_toArray] at this; simp [part, a9, this]
  rw [show (10000 : Nat) = 9999 + 1 from rfl, run_equalIn_agg w 9999 37 _ _ hS hp]
  have e0 : ∀ w, (Op.equalIn 9999 3 (.int .i64 d.x.h) (.int .i64 e.x.h)).run Try.prog w = .ok (d.x.h == e.x.h) w := fun w => run_equalIn_int w 9998 _ .i64 .i64 d.x.h e.x.h u3
  have e1 : ∀ w, (Op.equalIn 9999 9 (.string d.x.v) (.string e.x.v)).run Try.prog w = .ok (d.x.v.toList == e.x.v.toList) w := fun w => run_equalIn_string w 9998 _ d.x.v e.x.v u9
  simp only [Program.fieldsOf, Try.underlying37]
  unfold eqD
  generalize (de d).toArray = X at *
  generalize (de e).toArray = Y at *
  generalize (d.x.v.toList == e.x.v.toList) = bt at *
  generalize (d.u == e.u) = bb at *
  generalize (d.x.r == e.x.r) = bc at *
  generalize (d.x.h == e.x.h) = bk at *
  cases bk <;> cases bt <;> cases bb <;> cases bc <;> simp [Op.eqFields, k0, k1, l0, l1, p1, p2, r1, r2, q1, q2, e0, e1]
theorem neq_D (w : World) (d e : Dn) : Sem.run Try.prog (binOp .neq 37 (.agg (de d).toArray) (.agg (de e).toArray)) w = .ok (.bool (!(eqD d e))) w := by
  rw [run_neq_struct, equalIn_D w d e]
  rfl
end Sq
end Go.Proofs.Ytgpimeobkacniaa
