/-
  Chapter 24: the document's map in memory. Chapter 24: the document's less. Chapter 24: the document's Live. Chapter 24: the document's List. Chapter 24: a row's header stored. Chapter 24: the document's Load.
-/
import Derived.Test.YtgpimeobkacniaaGreatGMc
import Derived.Test.YtgpimeobkacniaaGreatGMd
set_option linter.unusedVariables false
set_option linter.unusedSimpArgs false

namespace Go.Proofs.YtgpimeobkacniaaGreat
open Go.RowKit
namespace Mu
open Oct Ids Mp
open Mem (M It blk ids rows)
theorem tyR : St.Ty 65 34 wz := ⟨⟨_, Tryz.underlying65, rfl⟩, by kernel_rfl, by kernel_rfl⟩
theorem slR : SlT Tryz.prog 59 65 (.agg wz) 34 64 := SlT.mk' Tryz.underlying59 (by kernel_rfl) rfl (by omega)
abbrev mxc (lv gv : Value) : Obj := .cells #[lv, gv] 61
abbrev rX (v : Value) (X : List Wr) : It := rows 65 34 we v X
abbrev mxit (b : Nat) (lv gv : Value) (X : List Wr) (G : List Wd) : List It := [blk b (mxc lv gv), rX lv X, ids gv G]
def mxfoot (b : Nat) (lv gv : Value) (k : Nat) : Prop := k = b ∨ lv.ownBlock = some k ∨ gv.ownBlock = some k
/-- What the document's list is, as it lies. -/
structure MxAt (w : World) (b : Nat) (lv gv : Value) (X : List Wr) (G : List Wd) : Prop where
  all : M (mxfoot b lv gv) w w (mxit b lv gv X G)
theorem mxfoot_of {b : Nat} {lv gv : Value} {X : List Wr} {G : List Wd} {i : Nat} {x : It} (hi : (mxit b lv gv X G)[i]? = some x) {k : Nat} (hk : x.foot k) : mxfoot b lv gv k := by
  match i, hi with
  | 0, hi => cases hi; exact .inl hk
  | 1, hi => cases hi; exact .inr (.inl hk)
  | 2, hi => cases hi; exact .inr (.inr hk)
theorem mxfoot_to {b : Nat} {lv gv : Value} {X : List Wr} {G : List Wd} {k : Nat} (hk : mxfoot b lv gv k) : ∃ (i : Nat) (y : It), (mxit b lv gv X G)[i]? = some y ∧ y.foot k := by
  rcases hk with hk | hk | hk
  · exact ⟨0, _, rfl, hk⟩
  · exact ⟨1, _, rfl, hk⟩
  · exact ⟨2, _, rfl, hk⟩
theorem mkMx {F : Nat → Prop} {w0 w : World} {b : Nat} {lv gv : Value} {X : List Wr} {G : List Wd} (h : M F w0 w (mxit b lv gv X G)) : MxAt w b lv gv X G :=
  ⟨⟨h.all, h.dis, fun i x hi k hk => ⟨.inr (mxfoot_of hi hk), (h.rng i x hi k hk).2⟩, Keep.refl _ _⟩⟩
/-- The document's list as one thing among others. -/
def mxI (b : Nat) (lv gv : Value) (X : List Wr) (G : List Wd) : It := ⟨mxfoot b lv gv, fun w => MxAt w b lv gv X G, fun w w' S h k n =>
  ⟨⟨fun i x hi => x.stable w w' S (h.all.all i x hi) k (fun j hj => n j (mxfoot_of hi hj)), h.all.dis, fun i x hi j hj => ⟨.inr (mxfoot_of hi hj), Nat.lt_of_lt_of_le (h.all.rng i x hi j hj).2 k.size⟩, Keep.refl _ _⟩⟩⟩
section
variable {w w' : World} {b : Nat} {lv gv : Value} {X : List Wr} {G : List Wd}
theorem MxAt.calm (h : MxAt w b lv gv X G) (k : Keep (fun _ => False) w w') : MxAt w' b lv gv X G := (mxI b lv gv X G).stable w w' _ h k (fun _ _ h => h)
theorem MxAt.cells (h : MxAt w b lv gv X G) : w.cell? ⟨b, 0, none⟩ = some lv ∧ w.cell? ⟨b, 1, none⟩ = some gv :=
  ⟨h.all.cell 0 rfl 0 rfl, h.all.cell 0 rfl 1 rfl⟩
theorem MxAt.row (h : MxAt w b lv gv X G) : ∃ a c, lv = .slice a X.length c ∧ St.At 34 we w a X.length X := (show St.Own _ _ _ w lv X from h.all.get 1 rfl).any
theorem MxAt.gone (h : MxAt w b lv gv X G) : Ids.Own w gv G := h.all.get 2 rfl
end
/-- What a call makes of it. -/
structure MXTo (w w' : World) (b : Nat) (lv gv lv' gv' : Value) (X' : List Wr) (G' : List Wd) : Prop where
  sq : MxAt w' b lv' gv' X' G'
  keep : Keep (mxfoot b lv gv) w w'
  foot : ∀ k, mxfoot b lv' gv' k → mxfoot b lv gv k ∨ (w.heap.size ≤ k ∧ k < w'.heap.size)
theorem MXTo.of {w w' : World} {b : Nat} {lv gv lv' gv' : Value} {X' : List Wr} {G' : List Wd} (h : M (mxfoot b lv gv) w w' (mxit b lv' gv' X' G')) : MXTo w w' b lv gv lv' gv' X' G' := by
  refine ⟨mkMx h, h.keep, fun k hk => ?_⟩
  obtain ⟨i, y, hi, hy⟩ := mxfoot_to (X := X') (G := G') hk
  have := h.rng i y hi k hy
  rcases this.1 with h1 | h1
  · exact .inr ⟨h1, this.2⟩
  · exact .inl h1
theorem MXTo.calm {w w' : World} {b : Nat} {lv gv : Value} {X : List Wr} {G : List Wd} (h : MxAt w b lv gv X G) (k : Keep (fun _ => False) w w') : MXTo w w' b lv gv lv gv X G :=
  ⟨h.calm k, ⟨k.os, k.tape, k.output, k.size, fun j hj _ => k.block j hj (fun h => h)⟩, fun _ h => .inl h⟩
theorem M.mx {F : Nat → Prop} {w0 w w' : World} {it : List It} (h : M F w0 w it) (i : Nat) {b : Nat} {lv gv lv' gv' : Value} {X X' : List Wr} {G G' : List Wd} (hi : it[i]? = some (mxI b lv gv X G)) (t : MXTo w w' b lv gv lv' gv' X' G') : M F w0 w' (it.set i (mxI b lv' gv' X' G')) :=
  h.upd i hi t.keep (fun _ h => h) (y := mxI b lv' gv' X' G') t.sq t.foot
/-- A new one. -/
theorem mxNew (w : World) : MxAt (w.alloc (mxc (.slice none 0 0) (.slice none 0 0))) w.heap.size (.slice none 0 0) (.slice none 0 0) [] [] :=
  mkMx ((((M.start (fun _ => False) w).alloc (mxc (.slice none 0 0) (.slice none 0 0)) rfl).nilR 65 34 we).nilI)
theorem M.mxnew {F : Nat → Prop} {w0 w : World} {it : List It} (h : M F w0 w it) {b : Nat} (hb : w.heap.size = b) : M F w0 (w.alloc (mxc (.slice none 0 0) (.slice none 0 0))) (it ++ [mxI b (.slice none 0 0) (.slice none 0 0) [] []]) := by
  subst hb
  refine h.add (x := mxI w.heap.size (.slice none 0 0) (.slice none 0 0) [] []) ((Keep.refl _ _).alloc _) (mxNew w) (fun k hk => ?_)
  rcases hk with hk | hk | hk
  · subst hk; simp
  · simp [Value.ownBlock] at hk
  · simp [Value.ownBlock] at hk
end Mu
end Go.Proofs.YtgpimeobkacniaaGreat


namespace Go.Proofs.YtgpimeobkacniaaGreat
open Go.RowKit
namespace Mu
open Oct Ids Mp
open Mem (M It blk ids rows)
open Sq (at_load at_alloc at_store)
theorem ltW_c {x y : Wr} {c : Int} (hc : IdL.cmpL x.u y.u = c) : ltW x y ↔ c < 0 ∨ (c = 0 ∧ (bl x.k.toList y.k.toList = true ∨ ((x.k.toList == y.k.toList) = true ∧ bl x.v.toList y.v.toList = true))) := by
  subst hc
  unfold ltW
  refine or_congr_right (and_congr ⟨fun e => by rw [e]; exact IdL.cmpL_refl _, IdL.cmpL_zero _ _⟩ (or_congr_right (and_congr_left fun _ => ?_)))
  rw [beq_iff_eq]
  exact ⟨fun e => by rw [e], toList_inj⟩
set_option maxRecDepth 100000 in
set_option maxHeartbeats 4000000 in
theorem rowless_any (w : World) (x y : Wr) : Calls Tryz.prog 25 #[wv x, wv y] w fun e w' => (∃ r : Bool, e = .returned (.bool r) ∧ (r = true ↔ ltW x y)) ∧ Keep (fun _ => False) w w' := by
  have HM : Hid (M (fun _ => False) w _ [blk w.heap.size (.cells (we x).toArray 65), blk (w.heap.size + 1) (.cells (we y).toArray 65)]) := ((M.start _ w).alloc (.cells (we x).toArray 65) rfl).alloc (.cells (we y).toArray 65) (by simp)
  have HS : Hid (∀ w', M (fun _ => False) w w' [blk w.heap.size (.cells (we x).toArray 65), blk (w.heap.size + 1) (.cells (we y).toArray 65)] → w'.cell? ⟨w.heap.size, 32, none⟩ = some (.string x.k) ∧ w'.cell? ⟨w.heap.size, 33, none⟩ = some (.string x.v) ∧ w'.cell? ⟨w.heap.size + 1, 32, none⟩ = some (.string y.k) ∧ w'.cell? ⟨w.heap.size + 1, 33, none⟩ = some (.string y.v) ∧ Hid (w'.rangeAt w.heap.size 0 (x.u.map bv)) ∧ Hid (w'.rangeAt (w.heap.size + 1) 0 (y.u.map bv))) := fun w' h =>
    ⟨by have := rng_wk (h.range 0 rfl); rwa [Nat.zero_add] at this, by have := rng_wv (h.range 0 rfl); rwa [Nat.zero_add] at this, by have := rng_wk (h.range 1 rfl); rwa [Nat.zero_add] at this, by have := rng_wv (h.range 1 rfl); rwa [Nat.zero_add] at this, rng_wu (h.range 0 rfl), rng_wu (h.range 1 rfl)⟩
  have HXl : Hid (x.u.length = 32) := x.hu
  have HYl : Hid (y.u.length = 32) := y.hu
  obtain ⟨c, hc⟩ : ∃ c, IdL.cmpL x.u y.u = c := ⟨_, rfl⟩
  have HCm : Hid (∀ w, Calls Tryz.prog 48 #[idv x.u, idv y.u] w fun e w' => e = .returned (.int .i64 c) ∧ Keep (fun _ => False) w w') := fun w => by
    have := xcompare_any w x.u y.u x.hu y.hu
    rwa [hc] at this
  have HE : Hid (ltW x y ↔ c < 0 ∨ (c = 0 ∧ (bl x.k.toList y.k.toList = true ∨ ((x.k.toList == y.k.toList) = true ∧ bl x.v.toList y.v.toList = true)))) := ltW_c hc
  generalize x.k = xk at HS HE
  generalize y.k = yk at HS HE
  generalize x.v = xv at HS HE
  generalize y.v = yv at HS HE
  unfold wv
  generalize (we x).toArray = X at HM HS ⊢
  generalize (we y).toArray = Y at HM HS ⊢
  obtain ⟨RX, RY⟩ := (HS.out _ HM.out).2.2.2.2
  clear hc
  go_enter Tryz.func25, Tryz.ntmps25
  have hcs : c < 0 ∨ (¬ c < 0 ∧ c ≠ 0) ∨ (¬ c < 0 ∧ c = 0) := by omega
  rcases hcs with hcs | ⟨hcs, h0⟩ | ⟨hcs, h0⟩
  · go_wp2_with (first | ((with_reducible refine at_load 38 ?_); first | (refine Ids.wl_load rfl rfl rfl HXl.out RX.out ?_; simp only [Act.put, List.setIfInBounds_toArray, List.set_cons_zero, List.set_cons_succ]) | (refine Ids.wl_load rfl rfl rfl HYl.out RY.out ?_; simp only [Act.put, List.setIfInBounds_toArray, List.set_cons_zero, List.set_cons_succ])) | (go_at_call 48; refine (HCm.out _).mono ?_; rintro e w1 ⟨rfl, k1⟩; have HM : Hid _ := HM.out.calm k1; obtain ⟨a32, a33, b32, b33, _⟩ := HS.out _ HM.out; clear k1))
    go_ret
    exact ⟨⟨_, rfl, by rw [HE.out]; simp [hcs]⟩, HM.out.keep⟩
  · have h0' : (c == 0) = false := by simpa using h0
    go_wp2_with (first | ((with_reducible refine at_load 38 ?_); first | (refine Ids.wl_load rfl rfl rfl HXl.out RX.out ?_; simp only [Act.put, List.setIfInBounds_toArray, List.set_cons_zero, List.set_cons_succ]) | (refine Ids.wl_load rfl rfl rfl HYl.out RY.out ?_; simp only [Act.put, List.setIfInBounds_toArray, List.set_cons_zero, List.set_cons_succ])) | (go_at_call 48; refine (HCm.out _).mono ?_; rintro e w1 ⟨rfl, k1⟩; have HM : Hid _ := HM.out.calm k1; obtain ⟨a32, a33, b32, b33, _⟩ := HS.out _ HM.out; clear k1))
    go_ret
    exact ⟨⟨_, rfl, by rw [HE.out]; simp [hcs, h0]⟩, HM.out.keep⟩
  · have h0' : (c == 0) = true := by simpa using h0
    go_wp2_with (first | ((with_reducible refine at_load 38 ?_); first | (refine Ids.wl_load rfl rfl rfl HXl.out RX.out ?_; simp only [Act.put, List.setIfInBounds_toArray, List.set_cons_zero, List.set_cons_succ]) | (refine Ids.wl_load rfl rfl rfl HYl.out RY.out ?_; simp only [Act.put, List.setIfInBounds_toArray, List.set_cons_zero, List.set_cons_succ])) | (go_at_call 48; refine (HCm.out _).mono ?_; rintro e w1 ⟨rfl, k1⟩; have HM : Hid _ := HM.out.calm k1; obtain ⟨a32, a33, b32, b33, _⟩ := HS.out _ HM.out; clear k1))
    all_goals (try go_wp2)
    all_goals
      go_ret
      refine ⟨⟨_, rfl, ?_⟩, HM.out.keep⟩
      rw [HE.out]
      simp_all [bl]
end Mu
end Go.Proofs.YtgpimeobkacniaaGreat


namespace Go.Proofs.YtgpimeobkacniaaGreat
open Go.RowKit
namespace Mu
open Oct Ids Mp
open Mem (M It blk ids rows)
open Sq (at_load at_alloc at_store own_sl own_fm row0)
theorem equalIn_R (w : World) (x y : Wr) : (Op.equalIn 10000 65 (wv x) (wv y)).run Tryz.prog w = .ok (decide (x = y)) w := by
  have hS : Tryz.prog.underlying 65 = some (.struct (Tryz.prog.fieldsOf 65)) := by kernel_rfl
  have hp : Tryz.prog.stoodInHeld 65 = false := by kernel_rfl
  have u9 := Tryz.underlying9
  have p1 := part_w x
  have p2 := part_w y
  have k1 := part_k x
  have k2 := part_k y
  have v1 := part_v x
  have v2 := part_v y
  have q1 : ∀ w, (Op.equalIn 9999 38 (idv x.u) (idv y.u)).run Tryz.prog w = .ok (x.u == y.u) w := fun w => run_equalIn_bytes (P := Tryz.prog) w 9997 38 5 32 Tryz.underlying38 Tryz.underlying5 sz8 x.u y.u x.hu y.hu
  have e1 : ∀ w, (Op.equalIn 9999 9 (.string x.k) (.string y.k)).run Tryz.prog w = .ok (x.k.toList == y.k.toList) w := fun w => run_equalIn_string w 9998 _ x.k y.k u9
  have e2 : ∀ w, (Op.equalIn 9999 9 (.string x.v) (.string y.v)).run Tryz.prog w = .ok (x.v.toList == y.v.toList) w := fun w => run_equalIn_string w 9998 _ x.v y.v u9
  rw [← eqW_iff, show (10000 : Nat) = 9999 + 1 from rfl, run_equalIn_agg w 9999 65 _ _ hS hp]
  simp only [Program.fieldsOf, Tryz.underlying65]
  unfold eqW
  generalize (we x).toArray = X at *
  generalize (we y).toArray = Y at *
  generalize (x.k.toList == y.k.toList) = bk at *
  generalize (x.v.toList == y.v.toList) = bw at *
  generalize (x.u == y.u) = bu at *
  cases bk <;> cases bw <;> cases bu <;> simp [Op.eqFields, p1, p2, k1, k2, v1, v2, q1, e1, e2]
theorem eql_R (w : World) (x y : Wr) : Sem.run Tryz.prog (binOp .eql 65 (wv x) (wv y)) w = .ok (.bool (decide (x = y))) w := by
  rw [run_eql_struct, equalIn_R]
  rfl
section
variable {α : Type} {r : α → α → Prop}
/-- Put in its place. -/
theorem ins_pw (ht : ∀ a b c, r a b → r b c → r a c) (h3 : ∀ a b, r a b ∨ a = b ∨ r b a) {l : List α} (hl : l.Pairwise r) {x : α} {k : Nat} (h1 : ∀ (j : Nat) (y : α), j < k → l[j]? = some y → r y x) (h2 : l.length ≤ k ∨ ∃ y, l[k]? = some y ∧ ¬ r y x ∧ y ≠ x) : (l.take k ++ [x] ++ l.drop k).Pairwise r := by
  have hp : (l.take k ++ l.drop k).Pairwise r := by rw [List.take_append_drop]; exact hl
  rw [List.pairwise_append] at hp
  have ha : ∀ y ∈ l.take k, r y x := fun y hy => by
    obtain ⟨j, hj⟩ := List.getElem?_of_mem hy
    rw [List.getElem?_take] at hj
    split at hj
    · rename_i hlt
      exact h1 j y hlt hj
    · cases hj
  have hb : ∀ y ∈ l.drop k, r x y := fun y hy => by
    rcases h2 with h2 | ⟨z, hz, hn, hne⟩
    · rw [List.drop_eq_nil_of_le h2] at hy; cases hy
    · have hxz : r x z := by
        rcases h3 z x with h | h | h
        · exact absurd h hn
        · exact absurd h hne
        · exact h
      have e : l.drop k = z :: l.drop (k + 1) := by
        obtain ⟨g1, g2⟩ := List.getElem?_eq_some_iff.1 hz
        rw [← g2, List.getElem_cons_drop]
      rw [e] at hy hp
      rcases List.mem_cons.1 hy with rfl | hy
      · exact hxz
      · exact ht _ _ _ hxz ((List.pairwise_cons.1 hp.2.1).1 y hy)
  rw [List.append_assoc, List.pairwise_append]
  refine ⟨hp.1, ?_, fun y hy z hz => ?_⟩
  · rw [List.singleton_append, List.pairwise_cons]
    exact ⟨hb, hp.2.1⟩
  · rcases List.mem_append.1 hz with hz | hz
    · rw [List.mem_singleton.1 hz]; exact ha y hy
    · exact hp.2.2 y hy z hz
theorem ins_mem {l : List α} {x : α} {k : Nat} (y : α) : y ∈ l.take k ++ [x] ++ l.drop k ↔ y ∈ l ∨ y = x := by
  have : y ∈ l ↔ y ∈ l.take k ∨ y ∈ l.drop k := by rw [← List.mem_append, List.take_append_drop]
  rw [this, List.mem_append, List.mem_append, List.mem_singleton]
  constructor
  · rintro ((h | h) | h)
    · exact .inl (.inl h)
    · exact .inr h
    · exact .inl (.inr h)
  · rintro ((h | h) | h)
    · exact .inl (.inl h)
    · exact .inr h
    · exact .inl (.inr h)
theorem ins_len {l : List α} {x : α} {k : Nat} : (l.take k ++ [x] ++ l.drop k).length = l.length + 1 := by
  rw [List.length_append, List.length_append, List.length_take, List.length_drop]
  simp
  omega
end
theorem mem_take2 {L : List Wr} {i : Nat} {x : Wr} (hx : L[i]? = some x) (y : Wr) : y ∈ L.take (i + 1) ↔ y ∈ L.take i ∨ y = x := by
  rw [List.take_add_one, hx, List.mem_append]
  simp
/-- What Live comes to. -/
structure LivPost (w : World) (X : List Wr) (G : List Wd) (e : Ending) (w' : World) : Prop where
  ex : ∃ v out, e = .returned v ∧ M (fun _ => False) w w' [rX v out] ∧ out.Pairwise ltW ∧ (∀ x, x ∈ out ↔ x ∈ X ∧ x.u ∉ G) ∧ out.length ≤ X.length
/-- What holds behind the first k. -/
structure LivI (X : List Wr) (G : List Wd) (k : Nat) (out : List Wr) : Prop where
  pw : out.Pairwise ltW
  mem : ∀ x, x ∈ out ↔ x ∈ X.take k ∧ x.u ∉ G
  len : out.length ≤ k
theorem LivI.skip {X : List Wr} {G : List Wd} {k : Nat} {out : List Wr} (h : LivI X G k out) {x : Wr} (hx : X[k]? = some x) (hs : x.u ∈ G ∨ x ∈ out) : LivI X G (k + 1) out := by
  refine ⟨h.pw, fun y => ?_, Nat.le_succ_of_le h.len⟩
  rw [mem_take2 hx]
  constructor
  · intro h1
    exact ⟨.inl ((h.mem y).1 h1).1, ((h.mem y).1 h1).2⟩
  · rintro ⟨h1 | rfl, h2⟩
    · exact (h.mem y).2 ⟨h1, h2⟩
    · exact hs.resolve_left h2
theorem LivI.put {X : List Wr} {G : List Wd} {k : Nat} {out : List Wr} (h : LivI X G k out) {x : Wr} (hx : X[k]? = some x) (hg : x.u ∉ G) {j : Nat} (h1 : ∀ (i : Nat) (y : Wr), i < j → out[i]? = some y → ltW y x) (h2 : out.length ≤ j ∨ ∃ y, out[j]? = some y ∧ ¬ ltW y x ∧ y ≠ x) : LivI X G (k + 1) (out.take j ++ [x] ++ out.drop j) := by
  refine ⟨ins_pw (r := ltW) (fun _ _ _ => ltW_trans) ltW_tri h.pw h1 h2, fun y => ?_, by rw [ins_len]; exact Nat.succ_le_succ h.len⟩
  rw [ins_mem, mem_take2 hx, h.mem]
  constructor
  · rintro (h3 | rfl)
    · exact ⟨.inl h3.1, h3.2⟩
    · exact ⟨.inr rfl, hg⟩
  · rintro ⟨h3 | h3, h4⟩
    · exact .inl ⟨h3, h4⟩
    · exact .inr h3
set_option maxRecDepth 100000 in
set_option maxHeartbeats 16000000 in
theorem live_any (w : World) (b : Nat) (lv gv : Value) (X : List Wr) (G : List Wd) (h : MxAt w b lv gv X G) (hX : X.length ≤ 1000) (hG : G.length ≤ 1000) :
    Calls Tryz.prog 39 #[.pointer (some ⟨b, 0, none⟩)] w (LivPost w X G) := by
  obtain ⟨la, lc, e1, hrow⟩ := h.row
  obtain ⟨ga, gc, e2, hgat, _⟩ := h.gone.at
  subst e1 e2
  obtain ⟨n, hn⟩ : ∃ n, X.length = n := ⟨_, rfl⟩
  obtain ⟨g, hg⟩ : ∃ g, G.length = g := ⟨_, rfl⟩
  rw [hn] at h hX hrow
  rw [hg] at h hgat hG
  have HXs : Hid (MxAt w b (.slice la n lc) (.slice ga g gc) X G) := h
  have HRow : Hid (St.At 34 we w la n X) := hrow
  have HGat : Hid (At w ga g G) := hgat
  have Hn : Hid (X.length = n) := hn
  have HM : Hid (M (fun _ => False) w w [rX (.slice none 0 0) []]) := (M.start _ w).nilR 65 34 we
  clear h hrow hgat hn hg
  have c0 := HXs.out.cells.1
  go_enter Tryz.func39, Tryz.ntmps39
  go_wp2
  go_loopw [3, 4] (fun s3 s4 wr => ∃ (k : Nat) (v : Value) (out : List Wr), k ≤ n ∧ s3 = v ∧ s4 = .int .i64 k ∧ M (fun _ => False) w wr [rX v out] ∧ LivI X G k out) (fun _ s4 _ => n - (intOf s4).toNat)
  case atStart => exact ⟨0, _, [], Nat.zero_le _, rfl, by go_num, HM.out, List.Pairwise.nil, fun x => by simp, Nat.le_refl _⟩
  case round =>
    clear HM c0
    obtain ⟨k, v, out, hk, e3, rfl, hM, hI⟩ := hrel
    replace e3 := e3.symm
    subst e3
    have HM : Hid (M (fun _ => False) w wr [rX v out]) := hM
    have HI : Hid (LivI X G k out) := hI
    clear hM hI
    obtain ⟨va, vc, ev, _⟩ := (show St.Own 65 34 we wr v out from HM.out.get 0 rfl).any
    subst ev
    obtain ⟨m, hm⟩ : ∃ m, out.length = m := ⟨_, rfl⟩
    have Hm : Hid (out.length = m) := hm
    rw [hm] at HM ⊢
    clear hm
    have hmk : m ≤ k := by rw [← Hm.out]; exact HI.out.len
    obtain ⟨hnc, hcm, hfm⟩ := own_fm (show St.Own 65 34 we wr (.slice va m vc) out from HM.out.get 0 rfl)
    have Hf : Hid _ := hfm
    unfold maxLen at hcm
    clear hfm
    have c0 := (HXs.out.calm HM.out.keep).cells.1
    by_cases hlt : k < n
    · obtain ⟨x, hx⟩ : ∃ x, X[k]? = some x := ⟨_, List.getElem?_eq_getElem (by rw [Hn.out]; exact hlt)⟩
      have Hx : Hid (X[k]? = some x) := hx
      obtain ⟨g0, o0, e0, hb0, hr0⟩ := HRow.out.lay.resolve_left (by omega)
      subst e0
      have Rd : Hid (wr.rangeAt g0 (o0 + k * 34) (we x)) := HM.out.keep.range hb0 (fun h => h) (hr0 k x hx)
      have HU : Hid (x.u.length = 32) := x.hu
      have HM : Hid (M (fun _ => False) w _ [rX (.slice va m vc) out, blk wr.heap.size (.cells (we x).toArray 65)]) := HM.out.alloc (.cells (we x).toArray 65) rfl
      obtain ⟨ob, hob⟩ : ∃ n, wr.heap.size = n := ⟨_, rfl⟩
      have Hob : Hid (wr.heap.size = ob) := hob
      rw [hob] at HM
      clear hr0 hx hob
      go_wp2_with (first | ((with_reducible refine at_load 65 ?_); refine St.wl_load tyR rfl rfl rfl Rd.out (we_len x) ?_; simp only [Act.put, List.setIfInBounds_toArray, List.set_cons_zero, List.set_cons_succ]) | ((with_reducible refine at_alloc 65 ?_); refine St.wl_alloc tyR rfl rfl Hob.out ?_; simp only [Act.put, List.setIfInBounds_toArray, List.set_cons_zero, List.set_cons_succ]) | ((with_reducible refine at_store 65 ?_); refine St.wl_storeN (W := wr) tyR rfl rfl rfl rfl rfl Hob.out (show _ = Value.agg (we x).toArray from rfl) (we_sz _) rfl (encW.all _) ?_))
      clear c0
      have HM : Hid _ := HM.out.drew
      have c1 := (HXs.out.calm HM.out.keep).cells.2
      have RU : Hid _ := rng_wu (HM.out.range 1 rfl)
      have RX : Hid _ := HM.out.range 1 rfl
      have RY : Hid _ := HM.out.range 1 rfl
      refine Txt.wp_region_text (fun _ => True) [0, 0, 0, 1, 0, 1, 4] (by kernel_rfl) (by kernel_rfl) trivial ?_
      (repeat (first | (refine Txt.tl_pure (v := ?_) (by rfl) ?_ ?_; rotate_left; (focus (intro _; go_simp; try with_reducible rfl)); simp only [Act.put, List.setIfInBounds_toArray, List.set_cons_zero, List.set_cons_succ]) | (refine Txt.tl_skip (by rfl) trivial ?_; simp only [Act.put, List.setIfInBounds_toArray, List.set_cons_zero, List.set_cons_succ]) | (refine Txt.tl_load (v := ?_) (by rfl) (by rfl) (by rfl) (by kernel_rfl) ?_ ?_; rotate_left; (focus assumption); simp only [Act.put, List.setIfInBounds_toArray, List.set_cons_zero, List.set_cons_succ]) | (refine Txt.tl_rowN (n := 34) (ty := 65) (by rfl) (by rfl) (by rfl) RY.out (by kernel_rfl) (we_len _) ?_; simp only [Act.put, List.setIfInBounds_toArray, List.set_cons_zero, List.set_cons_succ]) | (refine Txt.tl_rowN (n := 34) (ty := 65) (by rfl) (by rfl) (by rfl) RX.out (by kernel_rfl) (we_len _) ?_; simp only [Act.put, List.setIfInBounds_toArray, List.set_cons_zero, List.set_cons_succ]) | (refine Txt.tl_rowN (n := 32) (ty := 38) (by rfl) (by rfl) (by rfl) RU.out (by kernel_rfl) (by rw [List.length_map]; exact HU.out) ?_; simp only [Act.put, List.setIfInBounds_toArray, List.set_cons_zero, List.set_cons_succ])))
      refine Txt.tl_call Tryz.func26 (by kernel_rfl) (by kernel_rfl) (by rfl) (by rfl) (by rfl) (xhas_any _ ga g gc G (HGat.out.calm HM.out.keep) (by omega) x.u x.hu) ?_
      rintro e w2 ⟨rfl, k2⟩
      have HM : Hid _ := HM.out.calm k2
      clear k2 c1 RU RX RY
      refine ⟨_, rfl, trivial, ?_⟩
      simp only [Act.put, List.setIfInBounds_toArray, List.set_cons_zero, List.set_cons_succ]
      by_cases hgx : x.u ∈ G
      · rw [decide_eq_true hgx]
        have HI2 : Hid _ := HI.out.skip Hx.out (.inl hgx)
        clear hgx
        (repeat (first | (refine Txt.tl_pure (v := ?_) (by rfl) ?_ ?_; rotate_left; (focus (intro _; go_simp; try with_reducible rfl)); simp only [Act.put, List.setIfInBounds_toArray, List.set_cons_zero, List.set_cons_succ]) | (refine Txt.tl_skip (by rfl) trivial ?_; simp only [Act.put, List.setIfInBounds_toArray, List.set_cons_zero, List.set_cons_succ])))
        refine Txt.tl_nil ?_
        go_wp2
        go_roundw
        case rel => exact ⟨k + 1, _, out, by omega, rfl, by go_num, HM.out.take 1, HI2.out⟩
        case measure => simp [intOf]; omega
      · rw [decide_eq_false hgx]
        have HGx : Hid (x.u ∉ G) := hgx
        clear hgx
        (repeat (first | (refine Txt.tl_pure (v := ?_) (by rfl) ?_ ?_; rotate_left; (focus (intro _; go_simp; try with_reducible rfl)); simp only [Act.put, List.setIfInBounds_toArray, List.set_cons_zero, List.set_cons_succ]) | (refine Txt.tl_skip (by rfl) trivial ?_; simp only [Act.put, List.setIfInBounds_toArray, List.set_cons_zero, List.set_cons_succ])))
        refine Txt.tl_nil ?_
        go_wp2
        go_loopw [6] (fun s6 wr => ∃ (j : Nat), j ≤ m ∧ s6 = .int .i64 j ∧ M (fun _ => False) w wr [rX (.slice va m vc) out, blk ob (.cells (we x).toArray 65)] ∧ (∀ (i : Nat) (y : Wr), i < j → out[i]? = some y → ltW y x)) (fun s6 _ => m - (intOf s6).toNat)
        case atStart => exact ⟨0, Nat.zero_le _, by go_num, HM.out, fun i y hi => absurd hi (Nat.not_lt_zero _)⟩
        case round =>
          clear HM
          obtain ⟨j, hj, rfl, hM, hB⟩ := hrel
          have HM : Hid (M (fun _ => False) w wr [rX (.slice va m vc) out, blk ob (.cells (we x).toArray 65)]) := hM
          have HB : Hid (∀ (i : Nat) (y : Wr), i < j → out[i]? = some y → ltW y x) := hB
          clear hM hB
          by_cases hlt2 : j < m
          · obtain ⟨y, hy⟩ : ∃ y, out[j]? = some y := ⟨_, List.getElem?_eq_getElem (by rw [Hm.out]; exact hlt2)⟩
            have Hy : Hid (out[j]? = some y) := hy
            obtain ⟨g1, o1, e1, _, _⟩ := (own_sl (show St.Own 65 34 we wr (.slice va m vc) out from HM.out.get 0 rfl)).2.lay.resolve_left (by omega)
            subst e1
            clear hy
            go_wp2
            have HM : Hid _ := HM.out.drew
            have RX : Hid _ := HM.out.range 1 rfl
            have RU : Hid _ := rng_wu (HM.out.range 1 rfl)
            have RY : Hid _ := ((own_sl (show St.Own 65 34 we _ (.slice (some ⟨g1, o1, none⟩) m vc) out from HM.out.get 0 rfl)).2.lay.resolve_left (by omega) |> fun ⟨_, _, e, _, hr⟩ => (by cases e; exact hr j y Hy.out : World.rangeAt _ g1 (o1 + j * 34) (we y)))
            by_cases hyx : ltW y x
            · have HLs : Hid (∀ w, Calls Tryz.prog 25 #[wv y, wv x] w fun e w' => e = .returned (.bool true) ∧ Keep (fun _ => False) w w') := fun w => (rowless_any w y x).mono fun e w' ⟨⟨r, he, hr⟩, hk⟩ => ⟨by rw [he, hr.2 hyx], hk⟩
              have HYx : Hid (ltW y x) := hyx
              clear hyx
              refine Txt.wp_region_text (fun _ => True) [0, 0, 0, 0, 0, 0, 0, 0, 1, 1, 4, 0] (by kernel_rfl) (by kernel_rfl) trivial ?_
              (repeat (first | (refine Txt.tl_pure (v := ?_) (by rfl) ?_ ?_; rotate_left; (focus (intro _; go_simp; try with_reducible rfl)); simp only [Act.put, List.setIfInBounds_toArray, List.set_cons_zero, List.set_cons_succ]) | (refine Txt.tl_skip (by rfl) trivial ?_; simp only [Act.put, List.setIfInBounds_toArray, List.set_cons_zero, List.set_cons_succ]) | (refine Txt.tl_load (v := ?_) (by rfl) (by rfl) (by rfl) (by kernel_rfl) ?_ ?_; rotate_left; (focus assumption); simp only [Act.put, List.setIfInBounds_toArray, List.set_cons_zero, List.set_cons_succ]) | (refine Txt.tl_rowN (n := 34) (ty := 65) (by rfl) (by rfl) (by rfl) RY.out (by kernel_rfl) (we_len _) ?_; simp only [Act.put, List.setIfInBounds_toArray, List.set_cons_zero, List.set_cons_succ]) | (refine Txt.tl_rowN (n := 34) (ty := 65) (by rfl) (by rfl) (by rfl) RX.out (by kernel_rfl) (we_len _) ?_; simp only [Act.put, List.setIfInBounds_toArray, List.set_cons_zero, List.set_cons_succ]) | (refine Txt.tl_rowN (n := 32) (ty := 38) (by rfl) (by rfl) (by rfl) RU.out (by kernel_rfl) (by rw [List.length_map]; exact HU.out) ?_; simp only [Act.put, List.setIfInBounds_toArray, List.set_cons_zero, List.set_cons_succ])))
              refine Txt.tl_call Tryz.func25 (by kernel_rfl) (by kernel_rfl) (by rfl) (by rfl) (by rfl) (HLs.out _) ?_
              rintro e w3 ⟨rfl, k3⟩
              have HM : Hid _ := HM.out.calm k3
              clear k3 RX RU RY
              refine ⟨_, rfl, trivial, ?_⟩
              simp only [Act.put, List.setIfInBounds_toArray, List.set_cons_zero, List.set_cons_succ]
              (repeat (first | (refine Txt.tl_pure (v := ?_) (by rfl) ?_ ?_; rotate_left; (focus (intro _; go_simp; try with_reducible rfl)); simp only [Act.put, List.setIfInBounds_toArray, List.set_cons_zero, List.set_cons_succ]) | (refine Txt.tl_skip (by rfl) trivial ?_; simp only [Act.put, List.setIfInBounds_toArray, List.set_cons_zero, List.set_cons_succ])))
              refine Txt.tl_nil ?_
              go_wp2
              go_roundw
              case rel =>
                refine ⟨j + 1, by omega, by go_num, HM.out, fun i z hi hz => ?_⟩
                rcases Nat.lt_or_ge i j with h1 | h1
                · exact HB.out i z h1 hz
                · obtain rfl : i = j := by omega
                  rw [Hy.out] at hz
                  rw [← Option.some.inj hz]
                  exact HYx.out
              case measure => simp [intOf]; omega
            · have HLs : Hid (∀ w, Calls Tryz.prog 25 #[wv y, wv x] w fun e w' => e = .returned (.bool false) ∧ Keep (fun _ => False) w w') := fun w => (rowless_any w y x).mono fun e w' ⟨⟨r, he, hr⟩, hk⟩ => ⟨by rw [he]; cases r; rfl; exact absurd (hr.1 rfl) hyx, hk⟩
              have HYx : Hid (¬ ltW y x) := hyx
              clear hyx
              refine Txt.wp_region_text (fun _ => True) [0, 0, 0, 0, 0, 0, 0, 0, 1, 1, 4, 0] (by kernel_rfl) (by kernel_rfl) trivial ?_
              (repeat (first | (refine Txt.tl_pure (v := ?_) (by rfl) ?_ ?_; rotate_left; (focus (intro _; go_simp; try with_reducible rfl)); simp only [Act.put, List.setIfInBounds_toArray, List.set_cons_zero, List.set_cons_succ]) | (refine Txt.tl_skip (by rfl) trivial ?_; simp only [Act.put, List.setIfInBounds_toArray, List.set_cons_zero, List.set_cons_succ]) | (refine Txt.tl_load (v := ?_) (by rfl) (by rfl) (by rfl) (by kernel_rfl) ?_ ?_; rotate_left; (focus assumption); simp only [Act.put, List.setIfInBounds_toArray, List.set_cons_zero, List.set_cons_succ]) | (refine Txt.tl_rowN (n := 34) (ty := 65) (by rfl) (by rfl) (by rfl) RY.out (by kernel_rfl) (we_len _) ?_; simp only [Act.put, List.setIfInBounds_toArray, List.set_cons_zero, List.set_cons_succ]) | (refine Txt.tl_rowN (n := 34) (ty := 65) (by rfl) (by rfl) (by rfl) RX.out (by kernel_rfl) (we_len _) ?_; simp only [Act.put, List.setIfInBounds_toArray, List.set_cons_zero, List.set_cons_succ]) | (refine Txt.tl_rowN (n := 32) (ty := 38) (by rfl) (by rfl) (by rfl) RU.out (by kernel_rfl) (by rw [List.length_map]; exact HU.out) ?_; simp only [Act.put, List.setIfInBounds_toArray, List.set_cons_zero, List.set_cons_succ])))
              refine Txt.tl_call Tryz.func25 (by kernel_rfl) (by kernel_rfl) (by rfl) (by rfl) (by rfl) (HLs.out _) ?_
              rintro e w3 ⟨rfl, k3⟩
              have HM : Hid _ := HM.out.calm k3
              clear k3 RX RU RY
              refine ⟨_, rfl, trivial, ?_⟩
              simp only [Act.put, List.setIfInBounds_toArray, List.set_cons_zero, List.set_cons_succ]
              (repeat (first | (refine Txt.tl_pure (v := ?_) (by rfl) ?_ ?_; rotate_left; (focus (intro _; go_simp; try with_reducible rfl)); simp only [Act.put, List.setIfInBounds_toArray, List.set_cons_zero, List.set_cons_succ]) | (refine Txt.tl_skip (by rfl) trivial ?_; simp only [Act.put, List.setIfInBounds_toArray, List.set_cons_zero, List.set_cons_succ])))
              refine Txt.tl_nil ?_
              go_wp2
              have HM : Hid _ := HM.out.drew
              have RX : Hid _ := HM.out.range 1 rfl
              have RU : Hid _ := rng_wu (HM.out.range 1 rfl)
              have RY : Hid _ := ((own_sl (show St.Own 65 34 we _ (.slice (some ⟨g1, o1, none⟩) m vc) out from HM.out.get 0 rfl)).2.lay.resolve_left (by omega) |> fun ⟨_, _, e, _, hr⟩ => (by cases e; exact hr j y Hy.out : World.rangeAt _ g1 (o1 + j * 34) (we y)))
              have hgd : ∀ (op : BinOp) (a b : Operand) (xs ys : Array Value) (w : World), Sem.run Tryz.prog (eqGuard op 65 a b (.agg xs) (.agg ys)) w = .ok () w := fun op a b xs ys w => run_eqGuard_agg w op 65 a b xs ys (by kernel_rfl)
              by_cases hyx2 : y = x
              · have hcmp : ∀ w, Sem.run Tryz.prog (binOp .eql 65 (wv y) (wv x)) w = .ok (.bool true) w := fun w => by rw [eql_R, decide_eq_true hyx2]
                have HI2 : Hid _ := HI.out.skip Hx.out (.inr (by rw [← hyx2]; exact List.mem_of_getElem? Hy.out))
                clear hyx2
                refine Txt.wp_region_text (fun _ => True) [0, 0, 0, 0, 0, 0, 0, 0, 1, 1, 0, 0] (by kernel_rfl) (by kernel_rfl) trivial ?_
                (repeat (first | (refine Txt.tl_pure (v := ?_) (by rfl) ?_ ?_; rotate_left; (focus (intro _; go_simp; try with_reducible rfl)); simp only [Act.put, List.setIfInBounds_toArray, List.set_cons_zero, List.set_cons_succ]) | (refine Txt.tl_skip (by rfl) trivial ?_; simp only [Act.put, List.setIfInBounds_toArray, List.set_cons_zero, List.set_cons_succ]) | (refine Txt.tl_load (v := ?_) (by rfl) (by rfl) (by rfl) (by kernel_rfl) ?_ ?_; rotate_left; (focus assumption); simp only [Act.put, List.setIfInBounds_toArray, List.set_cons_zero, List.set_cons_succ]) | (refine Txt.tl_rowN (n := 34) (ty := 65) (by rfl) (by rfl) (by rfl) RY.out (by kernel_rfl) (we_len _) ?_; simp only [Act.put, List.setIfInBounds_toArray, List.set_cons_zero, List.set_cons_succ]) | (refine Txt.tl_rowN (n := 34) (ty := 65) (by rfl) (by rfl) (by rfl) RX.out (by kernel_rfl) (we_len _) ?_; simp only [Act.put, List.setIfInBounds_toArray, List.set_cons_zero, List.set_cons_succ]) | (refine Txt.tl_rowN (n := 32) (ty := 38) (by rfl) (by rfl) (by rfl) RU.out (by kernel_rfl) (by rw [List.length_map]; exact HU.out) ?_; simp only [Act.put, List.setIfInBounds_toArray, List.set_cons_zero, List.set_cons_succ])))
                refine Txt.tl_nil ?_
                clear hcmp hgd RX RU RY
                go_wp2
                go_roundw
                case rel => exact ⟨k + 1, _, out, by omega, rfl, by go_num, HM.out.take 1, HI2.out⟩
                case measure => simp [intOf]; omega
              · have hcmp : ∀ w, Sem.run Tryz.prog (binOp .eql 65 (wv y) (wv x)) w = .ok (.bool false) w := fun w => by rw [eql_R, decide_eq_false hyx2]
                have HI2 : Hid (LivI X G (k + 1) (out.take j ++ [x] ++ out.drop j)) := HI.out.put Hx.out HGx.out HB.out (.inr ⟨y, Hy.out, HYx.out, hyx2⟩)
                clear hyx2
                refine Txt.wp_region_text (fun _ => True) [0, 0, 0, 0, 0, 0, 0, 0, 1, 1, 0, 0] (by kernel_rfl) (by kernel_rfl) trivial ?_
                (repeat (first | (refine Txt.tl_pure (v := ?_) (by rfl) ?_ ?_; rotate_left; (focus (intro _; go_simp; try with_reducible rfl)); simp only [Act.put, List.setIfInBounds_toArray, List.set_cons_zero, List.set_cons_succ]) | (refine Txt.tl_skip (by rfl) trivial ?_; simp only [Act.put, List.setIfInBounds_toArray, List.set_cons_zero, List.set_cons_succ]) | (refine Txt.tl_load (v := ?_) (by rfl) (by rfl) (by rfl) (by kernel_rfl) ?_ ?_; rotate_left; (focus assumption); simp only [Act.put, List.setIfInBounds_toArray, List.set_cons_zero, List.set_cons_succ]) | (refine Txt.tl_rowN (n := 34) (ty := 65) (by rfl) (by rfl) (by rfl) RY.out (by kernel_rfl) (we_len _) ?_; simp only [Act.put, List.setIfInBounds_toArray, List.set_cons_zero, List.set_cons_succ]) | (refine Txt.tl_rowN (n := 34) (ty := 65) (by rfl) (by rfl) (by rfl) RX.out (by kernel_rfl) (we_len _) ?_; simp only [Act.put, List.setIfInBounds_toArray, List.set_cons_zero, List.set_cons_succ]) | (refine Txt.tl_rowN (n := 32) (ty := 38) (by rfl) (by rfl) (by rfl) RU.out (by kernel_rfl) (by rw [List.length_map]; exact HU.out) ?_; simp only [Act.put, List.setIfInBounds_toArray, List.set_cons_zero, List.set_cons_succ])))
                refine Txt.tl_nil ?_
                clear hcmp hgd RX RU RY
                have hkc : (j : Int) ≤ (vc : Int) := by omega
                have hkc2 : ¬ vc = j := by omega
                have A2 : Hid (∀ w', St.Own 65 34 we w' (.slice (some ⟨g1, o1, none⟩) m vc) out → St.At 34 we w' (some ⟨g1, o1 + j * 34, none⟩) (m - j) (out.drop j)) := fun w' h => (own_sl h).2.tail j (by omega)
                go_wp2_with (first | (refine St.wl_build0 encW slR rfl rfl ?_; intro o1; clear o1; have HM : Hid _ := row0 HM.out (T := 65) encW rfl; simp only [Act.put, List.setIfInBounds_toArray, List.set_cons_zero, List.set_cons_succ]) | (refine St.wl_appR (els := ([] : List Wr)) encW slR (by decide) rfl rfl rfl (HM.out.get 2 rfl) rfl ((own_sl (HM.out.get 0 rfl)).2.cut _ (by omega)) (by simp <;> omega) ?_; intro v1 w3 h1 k1 g1; have HM : Hid _ := HM.out.appR 2 rfl h1 k1 g1; clear h1 k1 g1; simp only [Act.put, List.setIfInBounds_toArray, List.set_cons_zero, List.set_cons_succ]) | ((with_reducible refine at_load 65 ?_); refine St.wl_load tyR rfl rfl rfl (HM.out.range 1 rfl) (we_len x) ?_; simp only [Act.put, List.setIfInBounds_toArray, List.set_cons_zero, List.set_cons_succ]) | (refine St.wl_build slR (by decide) rfl rfl (we_len x) rfl ?_; have HM : Hid _ := HM.out.alloc (.cells (we x).toArray 65) rfl; simp only [Act.put, List.setIfInBounds_toArray, List.set_cons_zero, List.set_cons_succ]) | (refine St.wl_app1z encW slR (by decide) rfl rfl rfl (HM.out.get 2 rfl) rfl x rfl (HM.out.get 3 rfl) (by simp <;> omega) ?_; intro v2 w4 h2 k2 g2; have HM : Hid _ := HM.out.appR 2 rfl h2 k2 g2; clear h2 k2 g2; simp only [Act.put, List.setIfInBounds_toArray, List.set_cons_zero, List.set_cons_succ]) | (refine St.wl_appR encW slR (by decide) rfl rfl rfl (HM.out.get 2 rfl) rfl (A2.out _ (HM.out.get 0 rfl)) (by simp <;> omega) ?_; intro v3 w5 h3 k3 g3; have HM : Hid _ := HM.out.appR 2 rfl h3 k3 g3; clear h3 k3 g3; simp only [Act.put, List.setIfInBounds_toArray, List.set_cons_zero, List.set_cons_succ]))
                go_roundw
                case rel => exact ⟨k + 1, v3, _, by omega, rfl, by go_num, HM.out.sub _ [2] (by decide) rfl, HI2.out⟩
                case measure => simp [intOf]; omega
          · obtain rfl : m = j := by omega
            go_wp2
            have HM : Hid _ := HM.out.drew
            have RX : Hid _ := HM.out.range 1 rfl
            have RY : Hid _ := HM.out.range 1 rfl
            have RU : Hid _ := rng_wu (HM.out.range 1 rfl)
            refine Txt.wp_region_text (fun _ => True) [0, 0, 0, 0, 0, 0, 0, 0, 1, 1, 4, 0] (by kernel_rfl) (by kernel_rfl) trivial ?_
            (repeat (first | (refine Txt.tl_pure (v := ?_) (by rfl) ?_ ?_; rotate_left; (focus (intro _; go_simp; try with_reducible rfl)); simp only [Act.put, List.setIfInBounds_toArray, List.set_cons_zero, List.set_cons_succ]) | (refine Txt.tl_skip (by rfl) trivial ?_; simp only [Act.put, List.setIfInBounds_toArray, List.set_cons_zero, List.set_cons_succ]) | (refine Txt.tl_load (v := ?_) (by rfl) (by rfl) (by rfl) (by kernel_rfl) ?_ ?_; rotate_left; (focus assumption); simp only [Act.put, List.setIfInBounds_toArray, List.set_cons_zero, List.set_cons_succ]) | (refine Txt.tl_rowN (n := 34) (ty := 65) (by rfl) (by rfl) (by rfl) RY.out (by kernel_rfl) (we_len _) ?_; simp only [Act.put, List.setIfInBounds_toArray, List.set_cons_zero, List.set_cons_succ]) | (refine Txt.tl_rowN (n := 34) (ty := 65) (by rfl) (by rfl) (by rfl) RX.out (by kernel_rfl) (we_len _) ?_; simp only [Act.put, List.setIfInBounds_toArray, List.set_cons_zero, List.set_cons_succ]) | (refine Txt.tl_rowN (n := 32) (ty := 38) (by rfl) (by rfl) (by rfl) RU.out (by kernel_rfl) (by rw [List.length_map]; exact HU.out) ?_; simp only [Act.put, List.setIfInBounds_toArray, List.set_cons_zero, List.set_cons_succ])))
            refine Txt.tl_nil ?_
            clear RX RY RU
            go_wp2
            have HM : Hid _ := HM.out.drew
            have RX : Hid _ := HM.out.range 1 rfl
            have RY : Hid _ := HM.out.range 1 rfl
            have RU : Hid _ := rng_wu (HM.out.range 1 rfl)
            refine Txt.wp_region_text (fun _ => True) [0, 0, 0, 0, 0, 0, 0, 0, 1, 1, 0, 0] (by kernel_rfl) (by kernel_rfl) trivial ?_
            (repeat (first | (refine Txt.tl_pure (v := ?_) (by rfl) ?_ ?_; rotate_left; (focus (intro _; go_simp; try with_reducible rfl)); simp only [Act.put, List.setIfInBounds_toArray, List.set_cons_zero, List.set_cons_succ]) | (refine Txt.tl_skip (by rfl) trivial ?_; simp only [Act.put, List.setIfInBounds_toArray, List.set_cons_zero, List.set_cons_succ]) | (refine Txt.tl_load (v := ?_) (by rfl) (by rfl) (by rfl) (by kernel_rfl) ?_ ?_; rotate_left; (focus assumption); simp only [Act.put, List.setIfInBounds_toArray, List.set_cons_zero, List.set_cons_succ]) | (refine Txt.tl_rowN (n := 34) (ty := 65) (by rfl) (by rfl) (by rfl) RY.out (by kernel_rfl) (we_len _) ?_; simp only [Act.put, List.setIfInBounds_toArray, List.set_cons_zero, List.set_cons_succ]) | (refine Txt.tl_rowN (n := 34) (ty := 65) (by rfl) (by rfl) (by rfl) RX.out (by kernel_rfl) (we_len _) ?_; simp only [Act.put, List.setIfInBounds_toArray, List.set_cons_zero, List.set_cons_succ]) | (refine Txt.tl_rowN (n := 32) (ty := 38) (by rfl) (by rfl) (by rfl) RU.out (by kernel_rfl) (by rw [List.length_map]; exact HU.out) ?_; simp only [Act.put, List.setIfInBounds_toArray, List.set_cons_zero, List.set_cons_succ])))
            refine Txt.tl_nil ?_
            clear RX RY RU
            have HI2 : Hid (LivI X G (k + 1) (out.take m ++ [x] ++ out.drop m)) := HI.out.put Hx.out HGx.out HB.out (.inl (by rw [Hm.out]; exact Nat.le_refl _))
            have hdn : Hid (out.drop m = []) := List.drop_eq_nil_of_le (by rw [Hm.out]; exact Nat.le_refl _)
            rcases Hf.out with ⟨rfl, rfl, rfl⟩ | ⟨g1, rfl⟩
            · have A2 : Hid (∀ w', St.Own 65 34 we w' (.slice none 0 0) out → St.At 34 we w' none 0 (out.drop 0)) := fun w' h => by rw [hdn.out]; exact (own_sl h).2.empty
              go_wp2_with (first | (refine St.wl_build0 encW slR rfl rfl ?_; intro o1; clear o1; have HM : Hid _ := row0 HM.out (T := 65) encW rfl; simp only [Act.put, List.setIfInBounds_toArray, List.set_cons_zero, List.set_cons_succ]) | (refine St.wl_appR (els := ([] : List Wr)) encW slR (by decide) rfl rfl rfl (HM.out.get 2 rfl) rfl ((own_sl (HM.out.get 0 rfl)).2.cut _ (by omega)) (by simp <;> omega) ?_; intro v1 w3 h1 k1 g1; have HM : Hid _ := HM.out.appR 2 rfl h1 k1 g1; clear h1 k1 g1; simp only [Act.put, List.setIfInBounds_toArray, List.set_cons_zero, List.set_cons_succ]) | ((with_reducible refine at_load 65 ?_); refine St.wl_load tyR rfl rfl rfl (HM.out.range 1 rfl) (we_len x) ?_; simp only [Act.put, List.setIfInBounds_toArray, List.set_cons_zero, List.set_cons_succ]) | (refine St.wl_build slR (by decide) rfl rfl (we_len x) rfl ?_; have HM : Hid _ := HM.out.alloc (.cells (we x).toArray 65) rfl; simp only [Act.put, List.setIfInBounds_toArray, List.set_cons_zero, List.set_cons_succ]) | (refine St.wl_app1z encW slR (by decide) rfl rfl rfl (HM.out.get 2 rfl) rfl x rfl (HM.out.get 3 rfl) (by simp <;> omega) ?_; intro v2 w4 h2 k2 g2; have HM : Hid _ := HM.out.appR 2 rfl h2 k2 g2; clear h2 k2 g2; simp only [Act.put, List.setIfInBounds_toArray, List.set_cons_zero, List.set_cons_succ]) | (refine St.wl_appR encW slR (by decide) rfl rfl rfl (HM.out.get 2 rfl) rfl (A2.out _ (HM.out.get 0 rfl)) (by simp <;> omega) ?_; intro v3 w5 h3 k3 g3; have HM : Hid _ := HM.out.appR 2 rfl h3 k3 g3; clear h3 k3 g3; simp only [Act.put, List.setIfInBounds_toArray, List.set_cons_zero, List.set_cons_succ]))
              go_roundw
              case rel => exact ⟨k + 1, v3, _, by omega, rfl, by go_num, HM.out.sub _ [2] (by decide) rfl, HI2.out⟩
              case measure => simp [intOf]; omega
            · by_cases hkc : vc = m
              · subst hkc
                have A2 : Hid (∀ w', St.Own 65 34 we w' (.slice (some ⟨g1, 0, none⟩) vc vc) out → St.At 34 we w' (some ⟨g1, 0, none⟩) 0 (out.drop vc)) := fun w' h => by rw [hdn.out]; exact (own_sl h).2.empty
                go_wp2_with (first | (refine St.wl_build0 encW slR rfl rfl ?_; intro o1; clear o1; have HM : Hid _ := row0 HM.out (T := 65) encW rfl; simp only [Act.put, List.setIfInBounds_toArray, List.set_cons_zero, List.set_cons_succ]) | (refine St.wl_appR (els := ([] : List Wr)) encW slR (by decide) rfl rfl rfl (HM.out.get 2 rfl) rfl ((own_sl (HM.out.get 0 rfl)).2.cut _ (by omega)) (by simp <;> omega) ?_; intro v1 w3 h1 k1 g1; have HM : Hid _ := HM.out.appR 2 rfl h1 k1 g1; clear h1 k1 g1; simp only [Act.put, List.setIfInBounds_toArray, List.set_cons_zero, List.set_cons_succ]) | ((with_reducible refine at_load 65 ?_); refine St.wl_load tyR rfl rfl rfl (HM.out.range 1 rfl) (we_len x) ?_; simp only [Act.put, List.setIfInBounds_toArray, List.set_cons_zero, List.set_cons_succ]) | (refine St.wl_build slR (by decide) rfl rfl (we_len x) rfl ?_; have HM : Hid _ := HM.out.alloc (.cells (we x).toArray 65) rfl; simp only [Act.put, List.setIfInBounds_toArray, List.set_cons_zero, List.set_cons_succ]) | (refine St.wl_app1z encW slR (by decide) rfl rfl rfl (HM.out.get 2 rfl) rfl x rfl (HM.out.get 3 rfl) (by simp <;> omega) ?_; intro v2 w4 h2 k2 g2; have HM : Hid _ := HM.out.appR 2 rfl h2 k2 g2; clear h2 k2 g2; simp only [Act.put, List.setIfInBounds_toArray, List.set_cons_zero, List.set_cons_succ]) | (refine St.wl_appR encW slR (by decide) rfl rfl rfl (HM.out.get 2 rfl) rfl (A2.out _ (HM.out.get 0 rfl)) (by simp <;> omega) ?_; intro v3 w5 h3 k3 g3; have HM : Hid _ := HM.out.appR 2 rfl h3 k3 g3; clear h3 k3 g3; simp only [Act.put, List.setIfInBounds_toArray, List.set_cons_zero, List.set_cons_succ]))
                go_roundw
                case rel => exact ⟨k + 1, v3, _, by omega, rfl, by go_num, HM.out.sub _ [2] (by decide) rfl, HI2.out⟩
                case measure => simp [intOf]; omega
              · have hnc' : (m : Int) ≤ (vc : Int) := by omega
                have A2 : Hid (∀ w', St.Own 65 34 we w' (.slice (some ⟨g1, 0, none⟩) m vc) out → St.At 34 we w' (some ⟨g1, m * 34, none⟩) 0 (out.drop m)) := fun w' h => by rw [hdn.out]; exact (own_sl h).2.empty
                go_wp2_with (first | (refine St.wl_build0 encW slR rfl rfl ?_; intro o1; clear o1; have HM : Hid _ := row0 HM.out (T := 65) encW rfl; simp only [Act.put, List.setIfInBounds_toArray, List.set_cons_zero, List.set_cons_succ]) | (refine St.wl_appR (els := ([] : List Wr)) encW slR (by decide) rfl rfl rfl (HM.out.get 2 rfl) rfl ((own_sl (HM.out.get 0 rfl)).2.cut _ (by omega)) (by simp <;> omega) ?_; intro v1 w3 h1 k1 g1; have HM : Hid _ := HM.out.appR 2 rfl h1 k1 g1; clear h1 k1 g1; simp only [Act.put, List.setIfInBounds_toArray, List.set_cons_zero, List.set_cons_succ]) | ((with_reducible refine at_load 65 ?_); refine St.wl_load tyR rfl rfl rfl (HM.out.range 1 rfl) (we_len x) ?_; simp only [Act.put, List.setIfInBounds_toArray, List.set_cons_zero, List.set_cons_succ]) | (refine St.wl_build slR (by decide) rfl rfl (we_len x) rfl ?_; have HM : Hid _ := HM.out.alloc (.cells (we x).toArray 65) rfl; simp only [Act.put, List.setIfInBounds_toArray, List.set_cons_zero, List.set_cons_succ]) | (refine St.wl_app1z encW slR (by decide) rfl rfl rfl (HM.out.get 2 rfl) rfl x rfl (HM.out.get 3 rfl) (by simp <;> omega) ?_; intro v2 w4 h2 k2 g2; have HM : Hid _ := HM.out.appR 2 rfl h2 k2 g2; clear h2 k2 g2; simp only [Act.put, List.setIfInBounds_toArray, List.set_cons_zero, List.set_cons_succ]) | (refine St.wl_appR encW slR (by decide) rfl rfl rfl (HM.out.get 2 rfl) rfl (A2.out _ (HM.out.get 0 rfl)) (by simp <;> omega) ?_; intro v3 w5 h3 k3 g3; have HM : Hid _ := HM.out.appR 2 rfl h3 k3 g3; clear h3 k3 g3; simp only [Act.put, List.setIfInBounds_toArray, List.set_cons_zero, List.set_cons_succ]))
                go_roundw
                case rel => exact ⟨k + 1, v3, _, by omega, rfl, by go_num, HM.out.sub _ [2] (by decide) rfl, HI2.out⟩
                case measure => simp [intOf]; omega
    · obtain rfl : n = k := by omega
      have HE : Hid (X.take n = X) := List.take_of_length_le (by rw [Hn.out]; exact Nat.le_refl _)
      go_wp2
      go_ret
      exact ⟨_, out, rfl, HM.out, HI.out.pw, fun x => by rw [HI.out.mem, HE.out], by rw [Hn.out]; exact HI.out.len⟩
end Mu
end Go.Proofs.YtgpimeobkacniaaGreat


namespace Go.Proofs.YtgpimeobkacniaaGreat
open Go.RowKit
namespace Mu
open Oct Ids Mp
open Mem (M It blk ids rows)
open Sq (at_load at_alloc at_store own_sl own_fm row0 ex_buildL)
/-- What the document's List comes to. -/
structure XLiPost (w : World) (X : List Wr) (G : List Wd) (e : Ending) (w' : World) : Prop where
  ex : ∃ v l, e = .returned v ∧ M (fun _ => False) w w' [rP v l] ∧ l.Pairwise ltP ∧ (∀ p, p ∈ l ↔ ∃ x, (x ∈ X ∧ x.u ∉ G) ∧ kv x = p) ∧ l.length ≤ X.length
/-- What holds behind the first k. -/
structure PaI (D : List Wr) (k : Nat) (out : List Pr) : Prop where
  pw : out.Pairwise ltP
  mem : ∀ p, p ∈ out ↔ ∃ x ∈ D.take k, kv x = p
  len : out.length ≤ k
theorem mem_kv2 {D : List Wr} {k : Nat} {x : Wr} (hx : D[k]? = some x) (p : Pr) : (∃ y ∈ D.take (k + 1), kv y = p) ↔ (∃ y ∈ D.take k, kv y = p) ∨ p = kv x := by
  constructor
  · rintro ⟨y, hy, rfl⟩
    rcases (mem_take2 hx y).1 hy with h | rfl
    · exact .inl ⟨y, h, rfl⟩
    · exact .inr rfl
  · rintro (⟨y, hy, rfl⟩ | rfl)
    · exact ⟨y, (mem_take2 hx y).2 (.inl hy), rfl⟩
    · exact ⟨x, (mem_take2 hx x).2 (.inr rfl), rfl⟩
theorem PaI.skip {D : List Wr} {k : Nat} {out : List Pr} (h : PaI D k out) {x : Wr} (hx : D[k]? = some x) (hs : kv x ∈ out) : PaI D (k + 1) out := by
  refine ⟨h.pw, fun p => ?_, Nat.le_succ_of_le h.len⟩
  rw [mem_kv2 hx, ← h.mem]
  exact ⟨.inl, fun h1 => h1.elim id (fun e => by rw [e]; exact hs)⟩
theorem PaI.put {D : List Wr} {k : Nat} {out : List Pr} (h : PaI D k out) {x : Wr} (hx : D[k]? = some x) {j : Nat} (h1 : ∀ (i : Nat) (y : Pr), i < j → out[i]? = some y → ltP y (kv x)) (h2 : out.length ≤ j ∨ ∃ y, out[j]? = some y ∧ ¬ ltP y (kv x) ∧ y ≠ kv x) : PaI D (k + 1) (out.take j ++ [kv x] ++ out.drop j) := by
  refine ⟨ins_pw (r := ltP) (fun _ _ _ => ltP_trans) ltP_tri h.pw h1 h2, fun p => ?_, by rw [ins_len]; exact Nat.succ_le_succ h.len⟩
  rw [ins_mem, mem_kv2 hx, h.mem]
theorem ltP_c {x y : Pr} : ltP x y ↔ Op.bytesLess x.1.toList y.1.toList = true ∨ ((x.1.toList == y.1.toList) = true ∧ Op.bytesLess x.2.toList y.2.toList = true) := by
  unfold ltP
  refine or_congr_right (and_congr_left fun _ => ?_)
  rw [beq_iff_eq]
  exact ⟨fun e => by rw [e], toList_inj⟩
theorem prc {w : World} {b o : Nat} {p : Pr} (h : w.rangeAt b o (pr p)) : w.cell? ⟨b, o, none⟩ = some (.string p.1) ∧ w.cell? ⟨b, o + 1, none⟩ = some (.string p.2) := ⟨h 0 _ rfl, h 1 _ rfl⟩
set_option maxRecDepth 100000 in
set_option maxHeartbeats 16000000 in
theorem xlist_any (w : World) (b : Nat) (lv gv : Value) (X : List Wr) (G : List Wd) (h : MxAt w b lv gv X G) (hX : X.length ≤ 1000) (hG : G.length ≤ 1000) :
    Calls Tryz.prog 10 #[.pointer (some ⟨b, 0, none⟩)] w (XLiPost w X G) := by
  have HLv : Hid (Calls Tryz.prog 39 #[.pointer (some ⟨b, 0, none⟩)] w (LivPost w X G)) := live_any w b lv gv X G h hX hG
  have HXl : Hid (X.length ≤ 1000) := hX
  clear h hX hG
  go_enter Tryz.func10, Tryz.ntmps10
  go_wp2_with (first | (go_at_call 39; refine HLv.out.mono ?_; rintro e w1 ⟨v1, D, rfl, m1, hp1, hm1, hl1⟩; obtain ⟨la, lc, el, _⟩ := (show St.Own 65 34 we w1 v1 D from m1.get 0 rfl).any; subst el; have HM : Hid (M (fun _ => False) w w1 [rX (.slice la D.length lc) D]) := m1; have HDm : Hid (∀ x, x ∈ D ↔ x ∈ X ∧ x.u ∉ G) := hm1; have HDl : Hid (D.length ≤ X.length) := hl1; clear m1 hp1 hm1 hl1; obtain ⟨n, hn⟩ : ∃ n, D.length = n := ⟨_, rfl⟩; have Hn : Hid (D.length = n) := hn; rw [hn] at HM ⊢; clear hn))
  have hn1 : n ≤ 1000 := by have := HXl.out; have := Hn.out; have := HDl.out; omega
  have HM : Hid (M (fun _ => False) w w1 [rX (.slice la n lc) D, rP (.slice none 0 0) []]) := HM.out.nilR 80 2 pr
  go_loopw [3, 5] (fun s3 s5 wr => ∃ (k : Nat) (v : Value) (out : List Pr), k ≤ n ∧ s3 = v ∧ s5 = .int .i64 k ∧ M (fun _ => False) w wr [rX (.slice la n lc) D, rP v out] ∧ PaI D k out) (fun _ s5 _ => n - (intOf s5).toNat)
  case atStart => exact ⟨0, _, [], Nat.zero_le _, rfl, by go_num, HM.out, List.Pairwise.nil, fun x => by simp, Nat.le_refl _⟩
  case round =>
    clear HM
    obtain ⟨k, v, out, hk, e3, rfl, hM, hI⟩ := hrel
    replace e3 := e3.symm
    subst e3
    have HM : Hid (M (fun _ => False) w wr [rX (.slice la n lc) D, rP v out]) := hM
    have HI : Hid (PaI D k out) := hI
    clear hM hI
    obtain ⟨va, vc, ev, _⟩ := (show OwnP wr v out from HM.out.get 1 rfl).any
    subst ev
    obtain ⟨m, hm⟩ : ∃ m, out.length = m := ⟨_, rfl⟩
    have Hm : Hid (out.length = m) := hm
    rw [hm] at HM ⊢
    clear hm
    have hmk : m ≤ k := by rw [← Hm.out]; exact HI.out.len
    obtain ⟨hnc, hcm, hfm⟩ := own_fm (show OwnP wr (.slice va m vc) out from HM.out.get 1 rfl)
    have Hf : Hid _ := hfm
    unfold maxLen at hcm
    clear hfm
    by_cases hlt : k < n
    · obtain ⟨x, hx⟩ : ∃ x, D[k]? = some x := ⟨_, List.getElem?_eq_getElem (by rw [Hn.out]; exact hlt)⟩
      have Hx : Hid (D[k]? = some x) := hx
      obtain ⟨g0, o0, e0, _, _⟩ := (own_sl (show St.Own 65 34 we wr (.slice la n lc) D from HM.out.get 0 rfl)).2.lay.resolve_left (by omega)
      subst e0
      clear hx
      go_wp2
      have HM : Hid _ := HM.out.drew
      have Rd : Hid _ := ((own_sl (show St.Own 65 34 we _ (.slice (some ⟨g0, o0, none⟩) n lc) D from HM.out.get 0 rfl)).2.lay.resolve_left (by omega) |> fun ⟨_, _, e, _, hr⟩ => (by cases e; exact hr k x Hx.out : World.rangeAt _ g0 (o0 + k * 34) (we x)))
      have d32 := rng_wk Rd.out
      have d33 := rng_wv Rd.out
      obtain ⟨p, hp⟩ : ∃ p, kv x = p := ⟨_, rfl⟩
      have Hp : Hid (kv x = p) := hp
      rw [show x.k = p.1 by rw [← hp]; rfl] at d32
      rw [show x.v = p.2 by rw [← hp]; rfl] at d33
      clear hp Rd
      refine Txt.wp_region_text (fun _ => True) [0, 0, 0, 0, 1, 0, 0, 0, 0, 1, 0, 3, 4] (by kernel_rfl) (by kernel_rfl) trivial ?_
      generalize hW6 : wr.drew = W6 at HM d32 d33 ⊢
      have HW6 : Hid (wr.drew = W6) := hW6
      clear hW6
      obtain ⟨ob, hob⟩ : ∃ n, W6.heap.size = n := ⟨_, rfl⟩
      have Hob : Hid (W6.heap.size = ob) := hob
      clear hob
      (repeat (first | (refine Txt.tl_pure (v := ?_) (by rfl) ?_ ?_; rotate_left; (focus (intro _; go_simp; try with_reducible rfl)); simp only [Act.put, List.setIfInBounds_toArray, List.set_cons_zero, List.set_cons_succ]) | (refine Txt.tl_skip (by rfl) trivial ?_; simp only [Act.put, List.setIfInBounds_toArray, List.set_cons_zero, List.set_cons_succ]) | (refine Txt.tl_load (v := ?_) (by rfl) (by rfl) (by rfl) (by kernel_rfl) ?_ ?_; rotate_left; (focus assumption); simp only [Act.put, List.setIfInBounds_toArray, List.set_cons_zero, List.set_cons_succ])))
      refine Txt.tl_alloc (by rfl) (St.wp_alloc tyPr rfl ?_)
      rw [Hob.out]
      go_simp
      first | refine ⟨⟨Txt.Le.alloc _ _, trivial⟩, ?_⟩ | refine ⟨Txt.Le.alloc _ _, ?_⟩
      refine Txt.tl_loud (by rfl) (St.wp_storeN (W := W6) tyPr rfl rfl rfl rfl Hob.out (show _ = Value.agg (pr p).toArray from rfl) rfl rfl (encPr.all p) ?_)
      have HM : Hid (M (fun _ => False) w _ [rX (.slice (some ⟨g0, o0, none⟩) n lc) D, rP (.slice va m vc) out, blk ob (.cells (pr p).toArray 80)]) := HM.out.alloc (.cells (pr p).toArray 80) Hob.out
      refine ⟨trivial, ?_⟩
      clear d32 d33
      refine Txt.tl_nil ?_
      go_wp2
      go_loopw [7] (fun s7 wr => ∃ (j : Nat), j ≤ m ∧ s7 = .int .i64 j ∧ M (fun _ => False) w wr [rX (.slice (some ⟨g0, o0, none⟩) n lc) D, rP (.slice va m vc) out, blk ob (.cells (pr p).toArray 80)] ∧ (∀ (i : Nat) (y : Pr), i < j → out[i]? = some y → ltP y p)) (fun s7 _ => m - (intOf s7).toNat)
      case atStart => exact ⟨0, Nat.zero_le _, by go_num, HM.out, fun i y hi => absurd hi (Nat.not_lt_zero _)⟩
      case round =>
        clear HM
        obtain ⟨j, hj, rfl, hM, hB⟩ := hrel
        have HM : Hid (M (fun _ => False) w wr [rX (.slice (some ⟨g0, o0, none⟩) n lc) D, rP (.slice va m vc) out, blk ob (.cells (pr p).toArray 80)]) := hM
        have HB : Hid (∀ (i : Nat) (y : Pr), i < j → out[i]? = some y → ltP y p) := hB
        clear hM hB
        by_cases hlt2 : j < m
        · obtain ⟨y, hy⟩ : ∃ y, out[j]? = some y := ⟨_, List.getElem?_eq_getElem (by rw [Hm.out]; exact hlt2)⟩
          have Hy : Hid (out[j]? = some y) := hy
          obtain ⟨g1, o1, e1, _, _⟩ := (own_sl (show OwnP wr (.slice va m vc) out from HM.out.get 1 rfl)).2.lay.resolve_left (by omega)
          subst e1
          clear hy
          go_wp2
          have HM : Hid _ := HM.out.drew
          have RY : Hid _ := ((own_sl (show OwnP _ (.slice (some ⟨g1, o1, none⟩) m vc) out from HM.out.get 1 rfl)).2.lay.resolve_left (by omega) |> fun ⟨_, _, e, _, hr⟩ => (by cases e; exact hr j y Hy.out : World.rangeAt _ g1 (o1 + j * 2) (pr y)))
          obtain ⟨d0, d1⟩ := prc RY.out
          obtain ⟨e0, e1⟩ := prc (HM.out.range 2 rfl)
          simp only [Nat.zero_add] at e1
          clear RY
          obtain ⟨b1, h1⟩ : ∃ b1, Op.bytesLess y.1.toList p.1.toList = b1 := ⟨_, rfl⟩
          obtain ⟨b2, h2⟩ : ∃ b2, (y.1.toList == p.1.toList) = b2 := ⟨_, rfl⟩
          obtain ⟨b3, h3⟩ : ∃ b3, Op.bytesLess y.2.toList p.2.toList = b3 := ⟨_, rfl⟩
          have HLt : Hid (ltP y p ↔ b1 = true ∨ (b2 = true ∧ b3 = true)) := by
            show _ ↔ _
            rw [ltP_c, h1, h2, h3]
          cases b1 with
          | true =>
            refine Txt.wp_region_text (fun _ => True) [0, 0, 0, 0, 0, 0, 0, 0, 0, 1, 0, 1, 0, 0, 0, 0, 0, 0, 1, 0, 1, 0, 0, 0, 0, 0, 0, 1, 0, 1, 0, 0, 0, 0] (by kernel_rfl) (by kernel_rfl) trivial ?_
            (repeat (first | (refine Txt.tl_pure (v := ?_) (by rfl) ?_ ?_; rotate_left; (focus (intro _; go_simp; try with_reducible rfl)); simp only [Act.put, List.setIfInBounds_toArray, List.set_cons_zero, List.set_cons_succ]) | (refine Txt.tl_skip (by rfl) trivial ?_; simp only [Act.put, List.setIfInBounds_toArray, List.set_cons_zero, List.set_cons_succ]) | (refine Txt.tl_load (v := ?_) (by rfl) (by rfl) (by rfl) (by kernel_rfl) ?_ ?_; rotate_left; (focus assumption); simp only [Act.put, List.setIfInBounds_toArray, List.set_cons_zero, List.set_cons_succ])))
            try rw [h1]
            (repeat (first | (refine Txt.tl_pure (v := ?_) (by rfl) ?_ ?_; rotate_left; (focus (intro _; go_simp; try with_reducible rfl)); simp only [Act.put, List.setIfInBounds_toArray, List.set_cons_zero, List.set_cons_succ]) | (refine Txt.tl_skip (by rfl) trivial ?_; simp only [Act.put, List.setIfInBounds_toArray, List.set_cons_zero, List.set_cons_succ]) | (refine Txt.tl_load (v := ?_) (by rfl) (by rfl) (by rfl) (by kernel_rfl) ?_ ?_; rotate_left; (focus assumption); simp only [Act.put, List.setIfInBounds_toArray, List.set_cons_zero, List.set_cons_succ])))
            refine Txt.tl_nil ?_
            have HYx : Hid (ltP y p) := HLt.out.2 (by simp)
            clear h1 h2 h3 d0 d1 e0 e1
            go_wp2
            go_roundw
            case rel =>
              refine ⟨j + 1, by omega, by go_num, HM.out, fun i z hi hz => ?_⟩
              rcases Nat.lt_or_ge i j with h1 | h1
              · exact HB.out i z h1 hz
              · obtain rfl : i = j := by omega
                rw [Hy.out] at hz
                rw [← Option.some.inj hz]
                exact HYx.out
            case measure => simp [intOf]; omega
          | false =>
            cases b2 with
            | true =>
              cases b3 with
              | true =>
                refine Txt.wp_region_text (fun _ => True) [0, 0, 0, 0, 0, 0, 0, 0, 0, 1, 0, 1, 0, 0, 0, 0, 0, 0, 1, 0, 1, 0, 0, 0, 0, 0, 0, 1, 0, 1, 0, 0, 0, 0] (by kernel_rfl) (by kernel_rfl) trivial ?_
                (repeat (first | (refine Txt.tl_pure (v := ?_) (by rfl) ?_ ?_; rotate_left; (focus (intro _; go_simp; try with_reducible rfl)); simp only [Act.put, List.setIfInBounds_toArray, List.set_cons_zero, List.set_cons_succ]) | (refine Txt.tl_skip (by rfl) trivial ?_; simp only [Act.put, List.setIfInBounds_toArray, List.set_cons_zero, List.set_cons_succ]) | (refine Txt.tl_load (v := ?_) (by rfl) (by rfl) (by rfl) (by kernel_rfl) ?_ ?_; rotate_left; (focus assumption); simp only [Act.put, List.setIfInBounds_toArray, List.set_cons_zero, List.set_cons_succ])))
                try rw [h1]
                (repeat (first | (refine Txt.tl_pure (v := ?_) (by rfl) ?_ ?_; rotate_left; (focus (intro _; go_simp; try with_reducible rfl)); simp only [Act.put, List.setIfInBounds_toArray, List.set_cons_zero, List.set_cons_succ]) | (refine Txt.tl_skip (by rfl) trivial ?_; simp only [Act.put, List.setIfInBounds_toArray, List.set_cons_zero, List.set_cons_succ]) | (refine Txt.tl_load (v := ?_) (by rfl) (by rfl) (by rfl) (by kernel_rfl) ?_ ?_; rotate_left; (focus assumption); simp only [Act.put, List.setIfInBounds_toArray, List.set_cons_zero, List.set_cons_succ])))
                try rw [h2]
                (repeat (first | (refine Txt.tl_pure (v := ?_) (by rfl) ?_ ?_; rotate_left; (focus (intro _; go_simp; try with_reducible rfl)); simp only [Act.put, List.setIfInBounds_toArray, List.set_cons_zero, List.set_cons_succ]) | (refine Txt.tl_skip (by rfl) trivial ?_; simp only [Act.put, List.setIfInBounds_toArray, List.set_cons_zero, List.set_cons_succ]) | (refine Txt.tl_load (v := ?_) (by rfl) (by rfl) (by rfl) (by kernel_rfl) ?_ ?_; rotate_left; (focus assumption); simp only [Act.put, List.setIfInBounds_toArray, List.set_cons_zero, List.set_cons_succ])))
                try rw [h3]
                (repeat (first | (refine Txt.tl_pure (v := ?_) (by rfl) ?_ ?_; rotate_left; (focus (intro _; go_simp; try with_reducible rfl)); simp only [Act.put, List.setIfInBounds_toArray, List.set_cons_zero, List.set_cons_succ]) | (refine Txt.tl_skip (by rfl) trivial ?_; simp only [Act.put, List.setIfInBounds_toArray, List.set_cons_zero, List.set_cons_succ]) | (refine Txt.tl_load (v := ?_) (by rfl) (by rfl) (by rfl) (by kernel_rfl) ?_ ?_; rotate_left; (focus assumption); simp only [Act.put, List.setIfInBounds_toArray, List.set_cons_zero, List.set_cons_succ])))
                refine Txt.tl_nil ?_
                have HYx : Hid (ltP y p) := HLt.out.2 (by simp)
                clear h1 h2 h3 d0 d1 e0 e1
                go_wp2
                go_roundw
                case rel =>
                  refine ⟨j + 1, by omega, by go_num, HM.out, fun i z hi hz => ?_⟩
                  rcases Nat.lt_or_ge i j with h1 | h1
                  · exact HB.out i z h1 hz
                  · obtain rfl : i = j := by omega
                    rw [Hy.out] at hz
                    rw [← Option.some.inj hz]
                    exact HYx.out
                case measure => simp [intOf]; omega
              | false =>
                refine Txt.wp_region_text (fun _ => True) [0, 0, 0, 0, 0, 0, 0, 0, 0, 1, 0, 1, 0, 0, 0, 0, 0, 0, 1, 0, 1, 0, 0, 0, 0, 0, 0, 1, 0, 1, 0, 0, 0, 0] (by kernel_rfl) (by kernel_rfl) trivial ?_
                (repeat (first | (refine Txt.tl_pure (v := ?_) (by rfl) ?_ ?_; rotate_left; (focus (intro _; go_simp; try with_reducible rfl)); simp only [Act.put, List.setIfInBounds_toArray, List.set_cons_zero, List.set_cons_succ]) | (refine Txt.tl_skip (by rfl) trivial ?_; simp only [Act.put, List.setIfInBounds_toArray, List.set_cons_zero, List.set_cons_succ]) | (refine Txt.tl_load (v := ?_) (by rfl) (by rfl) (by rfl) (by kernel_rfl) ?_ ?_; rotate_left; (focus assumption); simp only [Act.put, List.setIfInBounds_toArray, List.set_cons_zero, List.set_cons_succ])))
                try rw [h1]
                (repeat (first | (refine Txt.tl_pure (v := ?_) (by rfl) ?_ ?_; rotate_left; (focus (intro _; go_simp; try with_reducible rfl)); simp only [Act.put, List.setIfInBounds_toArray, List.set_cons_zero, List.set_cons_succ]) | (refine Txt.tl_skip (by rfl) trivial ?_; simp only [Act.put, List.setIfInBounds_toArray, List.set_cons_zero, List.set_cons_succ]) | (refine Txt.tl_load (v := ?_) (by rfl) (by rfl) (by rfl) (by kernel_rfl) ?_ ?_; rotate_left; (focus assumption); simp only [Act.put, List.setIfInBounds_toArray, List.set_cons_zero, List.set_cons_succ])))
                try rw [h2]
                (repeat (first | (refine Txt.tl_pure (v := ?_) (by rfl) ?_ ?_; rotate_left; (focus (intro _; go_simp; try with_reducible rfl)); simp only [Act.put, List.setIfInBounds_toArray, List.set_cons_zero, List.set_cons_succ]) | (refine Txt.tl_skip (by rfl) trivial ?_; simp only [Act.put, List.setIfInBounds_toArray, List.set_cons_zero, List.set_cons_succ]) | (refine Txt.tl_load (v := ?_) (by rfl) (by rfl) (by rfl) (by kernel_rfl) ?_ ?_; rotate_left; (focus assumption); simp only [Act.put, List.setIfInBounds_toArray, List.set_cons_zero, List.set_cons_succ])))
                try rw [h3]
                (repeat (first | (refine Txt.tl_pure (v := ?_) (by rfl) ?_ ?_; rotate_left; (focus (intro _; go_simp; try with_reducible rfl)); simp only [Act.put, List.setIfInBounds_toArray, List.set_cons_zero, List.set_cons_succ]) | (refine Txt.tl_skip (by rfl) trivial ?_; simp only [Act.put, List.setIfInBounds_toArray, List.set_cons_zero, List.set_cons_succ]) | (refine Txt.tl_load (v := ?_) (by rfl) (by rfl) (by rfl) (by kernel_rfl) ?_ ?_; rotate_left; (focus assumption); simp only [Act.put, List.setIfInBounds_toArray, List.set_cons_zero, List.set_cons_succ])))
                refine Txt.tl_nil ?_
                have HYx : Hid (¬ ltP y p) := fun h => by have := HLt.out.1 h; simp at this
                clear h1 h2 h3 d0 d1 e0 e1
                go_wp2
                have HM : Hid _ := HM.out.drew
                have RY : Hid _ := ((own_sl (show OwnP _ (.slice (some ⟨g1, o1, none⟩) m vc) out from HM.out.get 1 rfl)).2.lay.resolve_left (by omega) |> fun ⟨_, _, e, _, hr⟩ => (by cases e; exact hr j y Hy.out : World.rangeAt _ g1 (o1 + j * 2) (pr y)))
                have RX : Hid _ := HM.out.range 2 rfl
                have hgd : ∀ (op : BinOp) (a b : Operand) (xs ys : Array Value) (w : World), Sem.run Tryz.prog (eqGuard op 80 a b (.agg xs) (.agg ys)) w = .ok () w := guard_pr
                by_cases hyx2 : y = p
                · have hcmp : ∀ w, Sem.run Tryz.prog (binOp .eql 80 (pv y) (pv p)) w = .ok (.bool true) w := fun w => by rw [eql_pr, decide_eq_true hyx2]
                  have HI2 : Hid _ := HI.out.skip Hx.out (by rw [Hp.out, ← hyx2]; exact List.mem_of_getElem? Hy.out)
                  clear hyx2
                  refine Txt.wp_region_text (fun _ => True) [0, 0, 0, 0, 0, 0, 0, 0, 1, 1, 0, 0] (by kernel_rfl) (by kernel_rfl) trivial ?_
                  (repeat (first | (refine Txt.tl_pure (v := ?_) (by rfl) ?_ ?_; rotate_left; (focus (intro _; go_simp; try with_reducible rfl)); simp only [Act.put, List.setIfInBounds_toArray, List.set_cons_zero, List.set_cons_succ]) | (refine Txt.tl_skip (by rfl) trivial ?_; simp only [Act.put, List.setIfInBounds_toArray, List.set_cons_zero, List.set_cons_succ]) | (refine Txt.tl_rowN (n := 2) (ty := 80) (by rfl) (by rfl) (by rfl) RY.out (by kernel_rfl) rfl ?_; simp only [Act.put, List.setIfInBounds_toArray, List.set_cons_zero, List.set_cons_succ]) | (refine Txt.tl_rowN (n := 2) (ty := 80) (by rfl) (by rfl) (by rfl) RX.out (by kernel_rfl) rfl ?_; simp only [Act.put, List.setIfInBounds_toArray, List.set_cons_zero, List.set_cons_succ])))
                  refine Txt.tl_nil ?_
                  clear hcmp hgd RX RY
                  go_wp2
                  go_roundw
                  case rel => exact ⟨k + 1, _, out, by omega, rfl, by go_num, HM.out.take 2, HI2.out⟩
                  case measure => simp [intOf]; omega
                · have hcmp : ∀ w, Sem.run Tryz.prog (binOp .eql 80 (pv y) (pv p)) w = .ok (.bool false) w := fun w => by rw [eql_pr, decide_eq_false hyx2]
                  have HI2 : Hid (PaI D (k + 1) (out.take j ++ [p] ++ out.drop j)) := by
                    have := HI.out.put (j := j) Hx.out (by rw [Hp.out]; exact HB.out) (.inr ⟨y, Hy.out, by rw [Hp.out]; exact HYx.out, by rw [Hp.out]; exact hyx2⟩)
                    rwa [Hp.out] at this
                  clear hyx2
                  refine Txt.wp_region_text (fun _ => True) [0, 0, 0, 0, 0, 0, 0, 0, 1, 1, 0, 0] (by kernel_rfl) (by kernel_rfl) trivial ?_
                  (repeat (first | (refine Txt.tl_pure (v := ?_) (by rfl) ?_ ?_; rotate_left; (focus (intro _; go_simp; try with_reducible rfl)); simp only [Act.put, List.setIfInBounds_toArray, List.set_cons_zero, List.set_cons_succ]) | (refine Txt.tl_skip (by rfl) trivial ?_; simp only [Act.put, List.setIfInBounds_toArray, List.set_cons_zero, List.set_cons_succ]) | (refine Txt.tl_rowN (n := 2) (ty := 80) (by rfl) (by rfl) (by rfl) RY.out (by kernel_rfl) rfl ?_; simp only [Act.put, List.setIfInBounds_toArray, List.set_cons_zero, List.set_cons_succ]) | (refine Txt.tl_rowN (n := 2) (ty := 80) (by rfl) (by rfl) (by rfl) RX.out (by kernel_rfl) rfl ?_; simp only [Act.put, List.setIfInBounds_toArray, List.set_cons_zero, List.set_cons_succ])))
                  refine Txt.tl_nil ?_
                  clear hcmp hgd RX RY
                  have hkc : (j : Int) ≤ (vc : Int) := by omega
                  have hkc2 : ¬ vc = j := by omega
                  have A2 : Hid (∀ w', OwnP w' (.slice (some ⟨g1, o1, none⟩) m vc) out → St.At 2 pr w' (some ⟨g1, o1 + j * 2, none⟩) (m - j) (out.drop j)) := fun w' h => (own_sl h).2.tail j (by omega)
                  go_wp2_with (first | (refine St.wl_build0 encPr slPr rfl rfl ?_; intro o1; clear o1; have HM : Hid _ := row0 HM.out (T := 80) encPr rfl; simp only [Act.put, List.setIfInBounds_toArray, List.set_cons_zero, List.set_cons_succ]) | (refine St.wl_appR (els := ([] : List Pr)) encPr slPr (by decide) rfl rfl rfl (HM.out.get 3 rfl) rfl ((own_sl (HM.out.get 1 rfl)).2.cut _ (by omega)) (by simp <;> omega) ?_; intro v1 w3 h1 k1 g1; have HM : Hid _ := HM.out.appR 3 rfl h1 k1 g1; clear h1 k1 g1; simp only [Act.put, List.setIfInBounds_toArray, List.set_cons_zero, List.set_cons_succ]) | ((with_reducible refine at_load 80 ?_); refine St.wl_load tyPr rfl rfl rfl (HM.out.range 2 rfl) rfl ?_; simp only [Act.put, List.setIfInBounds_toArray, List.set_cons_zero, List.set_cons_succ]) | (refine St.wl_build slPr (by decide) rfl rfl (show (pr p).length = 2 from rfl) rfl ?_; have HM : Hid _ := HM.out.alloc (.cells (pr p).toArray 80) rfl; simp only [Act.put, List.setIfInBounds_toArray, List.set_cons_zero, List.set_cons_succ]) | (refine St.wl_app1z encPr slPr (by decide) rfl rfl rfl (HM.out.get 3 rfl) rfl p rfl (HM.out.get 4 rfl) (by simp <;> omega) ?_; intro v2 w4 h2 k2 g2; have HM : Hid _ := HM.out.appR 3 rfl h2 k2 g2; clear h2 k2 g2; simp only [Act.put, List.setIfInBounds_toArray, List.set_cons_zero, List.set_cons_succ]) | (refine St.wl_appR encPr slPr (by decide) rfl rfl rfl (HM.out.get 3 rfl) rfl (A2.out _ (HM.out.get 1 rfl)) (by simp <;> omega) ?_; intro v3 w5 h3 k3 g3; have HM : Hid _ := HM.out.appR 3 rfl h3 k3 g3; clear h3 k3 g3; simp only [Act.put, List.setIfInBounds_toArray, List.set_cons_zero, List.set_cons_succ]))
                  go_roundw
                  case rel => exact ⟨k + 1, v3, _, by omega, rfl, by go_num, HM.out.sub _ [0, 3] (by decide) rfl, HI2.out⟩
                  case measure => simp [intOf]; omega
            | false =>
              refine Txt.wp_region_text (fun _ => True) [0, 0, 0, 0, 0, 0, 0, 0, 0, 1, 0, 1, 0, 0, 0, 0, 0, 0, 1, 0, 1, 0, 0, 0, 0, 0, 0, 1, 0, 1, 0, 0, 0, 0] (by kernel_rfl) (by kernel_rfl) trivial ?_
              (repeat (first | (refine Txt.tl_pure (v := ?_) (by rfl) ?_ ?_; rotate_left; (focus (intro _; go_simp; try with_reducible rfl)); simp only [Act.put, List.setIfInBounds_toArray, List.set_cons_zero, List.set_cons_succ]) | (refine Txt.tl_skip (by rfl) trivial ?_; simp only [Act.put, List.setIfInBounds_toArray, List.set_cons_zero, List.set_cons_succ]) | (refine Txt.tl_load (v := ?_) (by rfl) (by rfl) (by rfl) (by kernel_rfl) ?_ ?_; rotate_left; (focus assumption); simp only [Act.put, List.setIfInBounds_toArray, List.set_cons_zero, List.set_cons_succ])))
              try rw [h1]
              (repeat (first | (refine Txt.tl_pure (v := ?_) (by rfl) ?_ ?_; rotate_left; (focus (intro _; go_simp; try with_reducible rfl)); simp only [Act.put, List.setIfInBounds_toArray, List.set_cons_zero, List.set_cons_succ]) | (refine Txt.tl_skip (by rfl) trivial ?_; simp only [Act.put, List.setIfInBounds_toArray, List.set_cons_zero, List.set_cons_succ]) | (refine Txt.tl_load (v := ?_) (by rfl) (by rfl) (by rfl) (by kernel_rfl) ?_ ?_; rotate_left; (focus assumption); simp only [Act.put, List.setIfInBounds_toArray, List.set_cons_zero, List.set_cons_succ])))
              try rw [h2]
              (repeat (first | (refine Txt.tl_pure (v := ?_) (by rfl) ?_ ?_; rotate_left; (focus (intro _; go_simp; try with_reducible rfl)); simp only [Act.put, List.setIfInBounds_toArray, List.set_cons_zero, List.set_cons_succ]) | (refine Txt.tl_skip (by rfl) trivial ?_; simp only [Act.put, List.setIfInBounds_toArray, List.set_cons_zero, List.set_cons_succ]) | (refine Txt.tl_load (v := ?_) (by rfl) (by rfl) (by rfl) (by kernel_rfl) ?_ ?_; rotate_left; (focus assumption); simp only [Act.put, List.setIfInBounds_toArray, List.set_cons_zero, List.set_cons_succ])))
              refine Txt.tl_nil ?_
              have HYx : Hid (¬ ltP y p) := fun h => by have := HLt.out.1 h; simp at this
              clear h1 h2 h3 d0 d1 e0 e1
              go_wp2
              have HM : Hid _ := HM.out.drew
              have RY : Hid _ := ((own_sl (show OwnP _ (.slice (some ⟨g1, o1, none⟩) m vc) out from HM.out.get 1 rfl)).2.lay.resolve_left (by omega) |> fun ⟨_, _, e, _, hr⟩ => (by cases e; exact hr j y Hy.out : World.rangeAt _ g1 (o1 + j * 2) (pr y)))
              have RX : Hid _ := HM.out.range 2 rfl
              have hgd : ∀ (op : BinOp) (a b : Operand) (xs ys : Array Value) (w : World), Sem.run Tryz.prog (eqGuard op 80 a b (.agg xs) (.agg ys)) w = .ok () w := guard_pr
              by_cases hyx2 : y = p
              · have hcmp : ∀ w, Sem.run Tryz.prog (binOp .eql 80 (pv y) (pv p)) w = .ok (.bool true) w := fun w => by rw [eql_pr, decide_eq_true hyx2]
                have HI2 : Hid _ := HI.out.skip Hx.out (by rw [Hp.out, ← hyx2]; exact List.mem_of_getElem? Hy.out)
                clear hyx2
                refine Txt.wp_region_text (fun _ => True) [0, 0, 0, 0, 0, 0, 0, 0, 1, 1, 0, 0] (by kernel_rfl) (by kernel_rfl) trivial ?_
                (repeat (first | (refine Txt.tl_pure (v := ?_) (by rfl) ?_ ?_; rotate_left; (focus (intro _; go_simp; try with_reducible rfl)); simp only [Act.put, List.setIfInBounds_toArray, List.set_cons_zero, List.set_cons_succ]) | (refine Txt.tl_skip (by rfl) trivial ?_; simp only [Act.put, List.setIfInBounds_toArray, List.set_cons_zero, List.set_cons_succ]) | (refine Txt.tl_rowN (n := 2) (ty := 80) (by rfl) (by rfl) (by rfl) RY.out (by kernel_rfl) rfl ?_; simp only [Act.put, List.setIfInBounds_toArray, List.set_cons_zero, List.set_cons_succ]) | (refine Txt.tl_rowN (n := 2) (ty := 80) (by rfl) (by rfl) (by rfl) RX.out (by kernel_rfl) rfl ?_; simp only [Act.put, List.setIfInBounds_toArray, List.set_cons_zero, List.set_cons_succ])))
                refine Txt.tl_nil ?_
                clear hcmp hgd RX RY
                go_wp2
                go_roundw
                case rel => exact ⟨k + 1, _, out, by omega, rfl, by go_num, HM.out.take 2, HI2.out⟩
                case measure => simp [intOf]; omega
              · have hcmp : ∀ w, Sem.run Tryz.prog (binOp .eql 80 (pv y) (pv p)) w = .ok (.bool false) w := fun w => by rw [eql_pr, decide_eq_false hyx2]
                have HI2 : Hid (PaI D (k + 1) (out.take j ++ [p] ++ out.drop j)) := by
                  have := HI.out.put (j := j) Hx.out (by rw [Hp.out]; exact HB.out) (.inr ⟨y, Hy.out, by rw [Hp.out]; exact HYx.out, by rw [Hp.out]; exact hyx2⟩)
                  rwa [Hp.out] at this
                clear hyx2
                refine Txt.wp_region_text (fun _ => True) [0, 0, 0, 0, 0, 0, 0, 0, 1, 1, 0, 0] (by kernel_rfl) (by kernel_rfl) trivial ?_
                (repeat (first | (refine Txt.tl_pure (v := ?_) (by rfl) ?_ ?_; rotate_left; (focus (intro _; go_simp; try with_reducible rfl)); simp only [Act.put, List.setIfInBounds_toArray, List.set_cons_zero, List.set_cons_succ]) | (refine Txt.tl_skip (by rfl) trivial ?_; simp only [Act.put, List.setIfInBounds_toArray, List.set_cons_zero, List.set_cons_succ]) | (refine Txt.tl_rowN (n := 2) (ty := 80) (by rfl) (by rfl) (by rfl) RY.out (by kernel_rfl) rfl ?_; simp only [Act.put, List.setIfInBounds_toArray, List.set_cons_zero, List.set_cons_succ]) | (refine Txt.tl_rowN (n := 2) (ty := 80) (by rfl) (by rfl) (by rfl) RX.out (by kernel_rfl) rfl ?_; simp only [Act.put, List.setIfInBounds_toArray, List.set_cons_zero, List.set_cons_succ])))
                refine Txt.tl_nil ?_
                clear hcmp hgd RX RY
                have hkc : (j : Int) ≤ (vc : Int) := by omega
                have hkc2 : ¬ vc = j := by omega
                have A2 : Hid (∀ w', OwnP w' (.slice (some ⟨g1, o1, none⟩) m vc) out → St.At 2 pr w' (some ⟨g1, o1 + j * 2, none⟩) (m - j) (out.drop j)) := fun w' h => (own_sl h).2.tail j (by omega)
                go_wp2_with (first | (refine St.wl_build0 encPr slPr rfl rfl ?_; intro o1; clear o1; have HM : Hid _ := row0 HM.out (T := 80) encPr rfl; simp only [Act.put, List.setIfInBounds_toArray, List.set_cons_zero, List.set_cons_succ]) | (refine St.wl_appR (els := ([] : List Pr)) encPr slPr (by decide) rfl rfl rfl (HM.out.get 3 rfl) rfl ((own_sl (HM.out.get 1 rfl)).2.cut _ (by omega)) (by simp <;> omega) ?_; intro v1 w3 h1 k1 g1; have HM : Hid _ := HM.out.appR 3 rfl h1 k1 g1; clear h1 k1 g1; simp only [Act.put, List.setIfInBounds_toArray, List.set_cons_zero, List.set_cons_succ]) | ((with_reducible refine at_load 80 ?_); refine St.wl_load tyPr rfl rfl rfl (HM.out.range 2 rfl) rfl ?_; simp only [Act.put, List.setIfInBounds_toArray, List.set_cons_zero, List.set_cons_succ]) | (refine St.wl_build slPr (by decide) rfl rfl (show (pr p).length = 2 from rfl) rfl ?_; have HM : Hid _ := HM.out.alloc (.cells (pr p).toArray 80) rfl; simp only [Act.put, List.setIfInBounds_toArray, List.set_cons_zero, List.set_cons_succ]) | (refine St.wl_app1z encPr slPr (by decide) rfl rfl rfl (HM.out.get 3 rfl) rfl p rfl (HM.out.get 4 rfl) (by simp <;> omega) ?_; intro v2 w4 h2 k2 g2; have HM : Hid _ := HM.out.appR 3 rfl h2 k2 g2; clear h2 k2 g2; simp only [Act.put, List.setIfInBounds_toArray, List.set_cons_zero, List.set_cons_succ]) | (refine St.wl_appR encPr slPr (by decide) rfl rfl rfl (HM.out.get 3 rfl) rfl (A2.out _ (HM.out.get 1 rfl)) (by simp <;> omega) ?_; intro v3 w5 h3 k3 g3; have HM : Hid _ := HM.out.appR 3 rfl h3 k3 g3; clear h3 k3 g3; simp only [Act.put, List.setIfInBounds_toArray, List.set_cons_zero, List.set_cons_succ]))
                go_roundw
                case rel => exact ⟨k + 1, v3, _, by omega, rfl, by go_num, HM.out.sub _ [0, 3] (by decide) rfl, HI2.out⟩
                case measure => simp [intOf]; omega
        · obtain rfl : m = j := by omega
          go_wp2
          have HM : Hid _ := HM.out.drew
          refine Txt.wp_region_text (fun _ => True) [0, 0, 0, 0, 0, 0, 0, 0, 0, 1, 0, 1, 0, 0, 0, 0, 0, 0, 1, 0, 1, 0, 0, 0, 0, 0, 0, 1, 0, 1, 0, 0, 0, 0] (by kernel_rfl) (by kernel_rfl) trivial ?_
          (repeat (first | (refine Txt.tl_pure (v := ?_) (by rfl) ?_ ?_; rotate_left; (focus (intro _; go_simp; try with_reducible rfl)); simp only [Act.put, List.setIfInBounds_toArray, List.set_cons_zero, List.set_cons_succ]) | (refine Txt.tl_skip (by rfl) trivial ?_; simp only [Act.put, List.setIfInBounds_toArray, List.set_cons_zero, List.set_cons_succ]) | (refine Txt.tl_load (v := ?_) (by rfl) (by rfl) (by rfl) (by kernel_rfl) ?_ ?_; rotate_left; (focus assumption); simp only [Act.put, List.setIfInBounds_toArray, List.set_cons_zero, List.set_cons_succ])))
          refine Txt.tl_nil ?_
          go_wp2
          have HM : Hid _ := HM.out.drew
          refine Txt.wp_region_text (fun _ => True) [0, 0, 0, 0, 0, 0, 0, 0, 1, 1, 0, 0] (by kernel_rfl) (by kernel_rfl) trivial ?_
          (repeat (first | (refine Txt.tl_pure (v := ?_) (by rfl) ?_ ?_; rotate_left; (focus (intro _; go_simp; try with_reducible rfl)); simp only [Act.put, List.setIfInBounds_toArray, List.set_cons_zero, List.set_cons_succ]) | (refine Txt.tl_skip (by rfl) trivial ?_; simp only [Act.put, List.setIfInBounds_toArray, List.set_cons_zero, List.set_cons_succ]) | (refine Txt.tl_load (v := ?_) (by rfl) (by rfl) (by rfl) (by kernel_rfl) ?_ ?_; rotate_left; (focus assumption); simp only [Act.put, List.setIfInBounds_toArray, List.set_cons_zero, List.set_cons_succ])))
          refine Txt.tl_nil ?_
          have HI2 : Hid (PaI D (k + 1) (out.take m ++ [p] ++ out.drop m)) := by
            have := HI.out.put (j := m) Hx.out (by rw [Hp.out]; exact HB.out) (.inl (by rw [Hm.out]; exact Nat.le_refl _))
            rwa [Hp.out] at this
          have hdn : Hid (out.drop m = []) := List.drop_eq_nil_of_le (by rw [Hm.out]; exact Nat.le_refl _)
          rcases Hf.out with ⟨rfl, rfl, rfl⟩ | ⟨g1, rfl⟩
          · have A2 : Hid (∀ w', OwnP w' (.slice none 0 0) out → St.At 2 pr w' none 0 (out.drop 0)) := fun w' h => by rw [hdn.out]; exact (own_sl h).2.empty
            go_wp2_with (first | (refine St.wl_build0 encPr slPr rfl rfl ?_; intro o1; clear o1; have HM : Hid _ := row0 HM.out (T := 80) encPr rfl; simp only [Act.put, List.setIfInBounds_toArray, List.set_cons_zero, List.set_cons_succ]) | (refine St.wl_appR (els := ([] : List Pr)) encPr slPr (by decide) rfl rfl rfl (HM.out.get 3 rfl) rfl ((own_sl (HM.out.get 1 rfl)).2.cut _ (by omega)) (by simp <;> omega) ?_; intro v1 w3 h1 k1 g1; have HM : Hid _ := HM.out.appR 3 rfl h1 k1 g1; clear h1 k1 g1; simp only [Act.put, List.setIfInBounds_toArray, List.set_cons_zero, List.set_cons_succ]) | ((with_reducible refine at_load 80 ?_); refine St.wl_load tyPr rfl rfl rfl (HM.out.range 2 rfl) rfl ?_; simp only [Act.put, List.setIfInBounds_toArray, List.set_cons_zero, List.set_cons_succ]) | (refine St.wl_build slPr (by decide) rfl rfl (show (pr p).length = 2 from rfl) rfl ?_; have HM : Hid _ := HM.out.alloc (.cells (pr p).toArray 80) rfl; simp only [Act.put, List.setIfInBounds_toArray, List.set_cons_zero, List.set_cons_succ]) | (refine St.wl_app1z encPr slPr (by decide) rfl rfl rfl (HM.out.get 3 rfl) rfl p rfl (HM.out.get 4 rfl) (by simp <;> omega) ?_; intro v2 w4 h2 k2 g2; have HM : Hid _ := HM.out.appR 3 rfl h2 k2 g2; clear h2 k2 g2; simp only [Act.put, List.setIfInBounds_toArray, List.set_cons_zero, List.set_cons_succ]) | (refine St.wl_appR encPr slPr (by decide) rfl rfl rfl (HM.out.get 3 rfl) rfl (A2.out _ (HM.out.get 1 rfl)) (by simp <;> omega) ?_; intro v3 w5 h3 k3 g3; have HM : Hid _ := HM.out.appR 3 rfl h3 k3 g3; clear h3 k3 g3; simp only [Act.put, List.setIfInBounds_toArray, List.set_cons_zero, List.set_cons_succ]))
            go_roundw
            case rel => exact ⟨k + 1, v3, _, by omega, rfl, by go_num, HM.out.sub _ [0, 3] (by decide) rfl, HI2.out⟩
            case measure => simp [intOf]; omega
          · by_cases hkc : vc = m
            · subst hkc
              have A2 : Hid (∀ w', OwnP w' (.slice (some ⟨g1, 0, none⟩) vc vc) out → St.At 2 pr w' (some ⟨g1, 0, none⟩) 0 (out.drop vc)) := fun w' h => by rw [hdn.out]; exact (own_sl h).2.empty
              go_wp2_with (first | (refine St.wl_build0 encPr slPr rfl rfl ?_; intro o1; clear o1; have HM : Hid _ := row0 HM.out (T := 80) encPr rfl; simp only [Act.put, List.setIfInBounds_toArray, List.set_cons_zero, List.set_cons_succ]) | (refine St.wl_appR (els := ([] : List Pr)) encPr slPr (by decide) rfl rfl rfl (HM.out.get 3 rfl) rfl ((own_sl (HM.out.get 1 rfl)).2.cut _ (by omega)) (by simp <;> omega) ?_; intro v1 w3 h1 k1 g1; have HM : Hid _ := HM.out.appR 3 rfl h1 k1 g1; clear h1 k1 g1; simp only [Act.put, List.setIfInBounds_toArray, List.set_cons_zero, List.set_cons_succ]) | ((with_reducible refine at_load 80 ?_); refine St.wl_load tyPr rfl rfl rfl (HM.out.range 2 rfl) rfl ?_; simp only [Act.put, List.setIfInBounds_toArray, List.set_cons_zero, List.set_cons_succ]) | (refine St.wl_build slPr (by decide) rfl rfl (show (pr p).length = 2 from rfl) rfl ?_; have HM : Hid _ := HM.out.alloc (.cells (pr p).toArray 80) rfl; simp only [Act.put, List.setIfInBounds_toArray, List.set_cons_zero, List.set_cons_succ]) | (refine St.wl_app1z encPr slPr (by decide) rfl rfl rfl (HM.out.get 3 rfl) rfl p rfl (HM.out.get 4 rfl) (by simp <;> omega) ?_; intro v2 w4 h2 k2 g2; have HM : Hid _ := HM.out.appR 3 rfl h2 k2 g2; clear h2 k2 g2; simp only [Act.put, List.setIfInBounds_toArray, List.set_cons_zero, List.set_cons_succ]) | (refine St.wl_appR encPr slPr (by decide) rfl rfl rfl (HM.out.get 3 rfl) rfl (A2.out _ (HM.out.get 1 rfl)) (by simp <;> omega) ?_; intro v3 w5 h3 k3 g3; have HM : Hid _ := HM.out.appR 3 rfl h3 k3 g3; clear h3 k3 g3; simp only [Act.put, List.setIfInBounds_toArray, List.set_cons_zero, List.set_cons_succ]))
              go_roundw
              case rel => exact ⟨k + 1, v3, _, by omega, rfl, by go_num, HM.out.sub _ [0, 3] (by decide) rfl, HI2.out⟩
              case measure => simp [intOf]; omega
            · have hnc' : (m : Int) ≤ (vc : Int) := by omega
              have A2 : Hid (∀ w', OwnP w' (.slice (some ⟨g1, 0, none⟩) m vc) out → St.At 2 pr w' (some ⟨g1, m * 2, none⟩) 0 (out.drop m)) := fun w' h => by rw [hdn.out]; exact (own_sl h).2.empty
              go_wp2_with (first | (refine St.wl_build0 encPr slPr rfl rfl ?_; intro o1; clear o1; have HM : Hid _ := row0 HM.out (T := 80) encPr rfl; simp only [Act.put, List.setIfInBounds_toArray, List.set_cons_zero, List.set_cons_succ]) | (refine St.wl_appR (els := ([] : List Pr)) encPr slPr (by decide) rfl rfl rfl (HM.out.get 3 rfl) rfl ((own_sl (HM.out.get 1 rfl)).2.cut _ (by omega)) (by simp <;> omega) ?_; intro v1 w3 h1 k1 g1; have HM : Hid _ := HM.out.appR 3 rfl h1 k1 g1; clear h1 k1 g1; simp only [Act.put, List.setIfInBounds_toArray, List.set_cons_zero, List.set_cons_succ]) | ((with_reducible refine at_load 80 ?_); refine St.wl_load tyPr rfl rfl rfl (HM.out.range 2 rfl) rfl ?_; simp only [Act.put, List.setIfInBounds_toArray, List.set_cons_zero, List.set_cons_succ]) | (refine St.wl_build slPr (by decide) rfl rfl (show (pr p).length = 2 from rfl) rfl ?_; have HM : Hid _ := HM.out.alloc (.cells (pr p).toArray 80) rfl; simp only [Act.put, List.setIfInBounds_toArray, List.set_cons_zero, List.set_cons_succ]) | (refine St.wl_app1z encPr slPr (by decide) rfl rfl rfl (HM.out.get 3 rfl) rfl p rfl (HM.out.get 4 rfl) (by simp <;> omega) ?_; intro v2 w4 h2 k2 g2; have HM : Hid _ := HM.out.appR 3 rfl h2 k2 g2; clear h2 k2 g2; simp only [Act.put, List.setIfInBounds_toArray, List.set_cons_zero, List.set_cons_succ]) | (refine St.wl_appR encPr slPr (by decide) rfl rfl rfl (HM.out.get 3 rfl) rfl (A2.out _ (HM.out.get 1 rfl)) (by simp <;> omega) ?_; intro v3 w5 h3 k3 g3; have HM : Hid _ := HM.out.appR 3 rfl h3 k3 g3; clear h3 k3 g3; simp only [Act.put, List.setIfInBounds_toArray, List.set_cons_zero, List.set_cons_succ]))
              go_roundw
              case rel => exact ⟨k + 1, v3, _, by omega, rfl, by go_num, HM.out.sub _ [0, 3] (by decide) rfl, HI2.out⟩
              case measure => simp [intOf]; omega
    · obtain rfl : n = k := by omega
      have HE : Hid (D.take n = D) := List.take_of_length_le (by rw [Hn.out]; exact Nat.le_refl _)
      go_wp2
      go_ret
      exact ⟨_, out, rfl, HM.out.sub _ [1] (by decide) rfl, HI.out.pw, fun p => by
        rw [HI.out.mem, HE.out]
        exact ⟨fun ⟨x, h1, h2⟩ => ⟨x, (HDm.out x).1 h1, h2⟩, fun ⟨x, h1, h2⟩ => ⟨x, (HDm.out x).2 h1, h2⟩⟩, by have := HI.out.len; have := HDl.out; have := Hn.out; omega⟩
end Mu
end Go.Proofs.YtgpimeobkacniaaGreat


namespace Go.Proofs.YtgpimeobkacniaaGreat
open Go.RowKit
namespace Mu
open Oct Ids Mp
theorem run_storeRX {w : World} {p : Addr} {ad : Option Addr} {n c : Nat} {old : Value} (hc : w.cell? p = some old) (hf : w.frozen? p = false) : (Instr.storeAt 59 (.pointer (some p)) (.slice ad n c)).run Tryz.prog w = .ok () (w.setCell p (.slice ad n c)) := by
  go_simp
section
variable {o : Oper} {a : Act} {w : World} {K : Act → World → Prop} {Q : Exit → Act → World → Prop}
theorem wp_storeRX {x y : Operand} (ho : o.op = .store 59 x y) (hd : o.dst = none) {p : Addr} (hx : a.eval x = .pointer (some p)) {ad : Option Addr} {n c : Nat} (hy : a.eval y = .slice ad n c) {old : Value} (hc : w.cell? p = some old) (hf : w.frozen? p = false)
    (h : K a (w.setCell p (.slice ad n c))) : o.wp Tryz.prog a w K Q := by
  unfold Oper.wp execOp
  simp only [ho, hx, hy, Sem.run_bind, run_storeRX hc hf, Result.andThen_ok, Sem.run_pure]
  rw [Oper.upon_skip, hd]
  exact h
end
end Mu
end Go.Proofs.YtgpimeobkacniaaGreat


namespace Go.Proofs.YtgpimeobkacniaaGreat
open Go.RowKit
namespace Mu
open Oct Ids Mp Seg
open Mem (M It blk ids rows xr)
open Ref (endv)
open Sq (Til fit fit_len fit_eq ids_bound wl_buildL at_load at_alloc at_store fill_cons tyI own_sl own_idat pack)
theorem built_row1 (u : Wd) (hu : u.length = 32) : Tryz.prog.built 65 [(0, idv u)] = some (we ⟨u, hu, ByteArray.empty, ByteArray.empty⟩).toArray := by
  have l32 : (u.map bv).length = 32 := by rw [List.length_map, hu]
  rw [show Tryz.prog.built 65 [(0, idv u)] = Instr.fill (fun i => #[(0, 32), (32, 1), (33, 1)][i]?) wz [(0, idv u)] from by kernel_rfl]
  have hz : wz = ((List.replicate 32 (0 : UInt8)).map bv ++ [Value.string ByteArray.empty, Value.string ByteArray.empty]).toArray := rfl
  rw [hz, fill_cons (off := 0) (size := 32) (cs := u.map bv) rfl rfl l32 (by decide)]
  rw [List.take_zero, List.nil_append, List.drop_left' (by decide), Instr.fill]
  rfl
/-- What it comes to. -/
structure XLdPost (w : World) (s : ByteArray) (e : Ending) (w' : World) : Prop where
  ex : ∃ (L : List Wr) (G : List Wd) (a : Nat) (b v : Int) (p : Value), e = .returned (.tuple #[p, .int .i64 v]) ∧ RwA s L G a b ∧ LwV s L G a b v ∧ Keep (fun _ => False) w w' ∧ (v ≠ 0 → p = .pointer none) ∧ (v = 0 → ∃ (b : Nat) (lv gv : Value), p = .pointer (some ⟨b, 0, none⟩) ∧ M (fun _ => False) w w' [mxI b lv gv L G])
theorem packX {F : Nat → Prop} {w0 w : World} {b : Nat} {lv gv : Value} {X : List Wr} {G : List Wd} {y : It} (h : M F w0 w (y :: mxit b lv gv X G)) : M F w0 w [mxI b lv gv X G] :=
  pack (l := []) (s := mxit b lv gv X G) (h.sub _ [1, 2, 3] (by decide) rfl) (mxI b lv gv X G) (mkMx (h.sub (mxit b lv gv X G) [1, 2, 3] (by decide) rfl)) (fun _ hk => mxfoot_to hk)
/-- What makes it fine so far. -/
def FI (s : ByteArray) (L : List Wr) (G : List Wd) (a i : Nat) : Prop := endv s a 0 = 0 ∧ IdL.Srt G ∧ (L.take i).Pairwise ltW ∧ ∀ x ∈ L.take i, x.u ∉ G
theorem FI_zero {s : ByteArray} {L : List Wr} {G : List Wd} {a : Nat} : FI s L G a 0 ↔ endv s a 0 = 0 ∧ IdL.Srt G := by
  unfold FI
  simp
theorem FI_step {s : ByteArray} {L : List Wr} {G : List Wd} {a i : Nat} {x : Wr} (hx : L[i]? = some x) : FI s L G a (i + 1) ↔ FI s L G a i ∧ (i = 0 ∨ ∃ y, L[i - 1]? = some y ∧ ltW y x) ∧ x.u ∉ G := by
  unfold FI
  have hp : (L.take (i + 1)).Pairwise ltW ↔ (L.take i).Pairwise ltW ∧ (i = 0 ∨ ∃ y, L[i - 1]? = some y ∧ ltW y x) := by
    have e : L.take (i + 1) = L.take i ++ [x] := by rw [List.take_add_one, hx]; rfl
    rw [e, List.pairwise_append]
    constructor
    · rintro ⟨h1, _, h2⟩
      refine ⟨h1, ?_⟩
      rcases Nat.eq_zero_or_pos i with h0 | h0
      · exact .inl h0
      · have hl := (List.getElem?_eq_some_iff.1 hx).1
        have hy : L[i - 1]? = some L[i - 1] := List.getElem?_eq_getElem (by omega)
        refine .inr ⟨_, hy, h2 _ ?_ x (by simp)⟩
        rw [List.mem_iff_getElem?]
        exact ⟨i - 1, by rw [List.getElem?_take, if_pos (by omega)]; exact hy⟩
    · rintro ⟨h1, h2⟩
      refine ⟨h1, by simp, fun y hy z hz => ?_⟩
      obtain rfl : z = x := by simpa using hz
      rcases h2 with rfl | ⟨t, ht, hlt⟩
      · cases hy
      · rcases Nat.eq_zero_or_pos i with h0 | h0
        · subst h0; cases hy
        · have e1 : L.take i = L.take (i - 1) ++ [t] := by
            have := List.take_add_one (l := L) (i := i - 1)
            rw [show i - 1 + 1 = i by omega, ht] at this
            simpa using this
          rw [e1] at hy h1
          rw [List.pairwise_append] at h1
          rcases List.mem_append.1 hy with hy | hy
          · exact ltW_trans (h1.2.2 y hy t (by simp)) hlt
          · obtain rfl : y = t := by simpa using hy
            exact hlt
  rw [hp]
  constructor
  · rintro ⟨h1, h2, ⟨h3, h4⟩, h5⟩
    exact ⟨⟨h1, h2, h3, fun y hy => h5 y ((mem_take2 hx y).2 (.inl hy))⟩, h4, h5 x ((mem_take2 hx x).2 (.inr rfl))⟩
  · rintro ⟨⟨h1, h2, h3, h5⟩, h4, h6⟩
    exact ⟨h1, h2, ⟨h3, h4⟩, fun y hy => ((mem_take2 hx y).1 hy).elim (h5 y) (fun e => by rw [e]; exact h6)⟩
set_option maxRecDepth 100000 in
set_option maxHeartbeats 16000000 in
theorem xload_any (w : World) (s : ByteArray) (hs : s.size ≤ 30000) :
    Calls Tryz.prog 6 #[.string s] w (XLdPost w s) := by
  have Hs : Hid (s.size ≤ 30000) := hs
  have Hsm : Hid (s.size ≤ maxLen) := by show _ ≤ _; unfold maxLen; omega
  have HM : Hid (M (fun _ => False) w _ [xr w.heap.size s 0 0, blk (w.heap.size + 1) (mxc (.slice none 0 0) (.slice none 0 0)), rX (.slice none 0 0) [], ids (.slice none 0 0) []]) := ((((M.start (fun _ => False) w).xnew s Hsm.out rfl).alloc (mxc (.slice none 0 0) (.slice none 0 0)) (b := w.heap.size + 1) (by simp)).nilR 65 34 we).nilI
  obtain ⟨n, a1, b1, h1⟩ : ∃ x a' b', rnum s 0 0 4 = (x, a', b') := ⟨_, _, _, rfl⟩
  have H1 : Hid (rnum s 0 0 4 = (n, a1, b1)) := h1
  clear h1 hs
  go_enter Tryz.func6, Tryz.ntmps6
  go_wp2_with (first | (go_at_call 20; refine (M.xnum HM.out 0 rfl H1.out).mono ?_; rintro e w1 ⟨rfl, h1⟩; have HM : Hid (M (fun _ => False) w w1 [xr w.heap.size s a1 b1, blk (w.heap.size + 1) (mxc (.slice none 0 0) (.slice none 0 0)), rX (.slice none 0 0) [], ids (.slice none 0 0) []]) := h1; clear h1))
  obtain ⟨rb, hrb⟩ : ∃ b, w.heap.size = b := ⟨_, rfl⟩
  rw [hrb] at HM
  rw [hrb]
  obtain ⟨bx, hbx⟩ : ∃ b, rb + 1 = b := ⟨_, rfl⟩
  rw [hbx] at HM
  rw [hbx]
  clear hrb hbx
  go_loopw [7] (fun s7 wr => ∃ (k : Nat) (v : Value) (L : List Wr) (a : Nat) (bad : Int), k ≤ n ∧ s7 = .int .i64 k ∧ M (fun _ => False) w wr [xr rb s a bad, blk bx (mxc v (.slice none 0 0)), rX v L, ids (.slice none 0 0) []] ∧ rwL s a1 b1 k = (L, a, bad) ∧ (∀ j, j < k → (rwL s a1 b1 j).2.2 = 0)) (fun s7 _ => n - (intOf s7).toNat)
  case atStart => exact ⟨0, _, [], a1, b1, Nat.zero_le _, by go_num, HM.out, rfl, fun j hj => absurd hj (Nat.not_lt_zero _)⟩
  case round =>
    clear HM
    obtain ⟨k, v, L, a, bad, hk, rfl, hM, hR, hg⟩ := hrel
    have HM : Hid (M (fun _ => False) w wr [xr rb s a bad, blk bx (mxc v (.slice none 0 0)), rX v L, ids (.slice none 0 0) []]) := hM
    have HR : Hid (rwL s a1 b1 k = (L, a, bad)) := hR
    have HG : Hid (∀ j, j < k → (rwL s a1 b1 j).2.2 = 0) := hg
    have HLl : Hid (L.length = k) := by have := rwL_len s a1 b1 k; rw [hR] at this; exact this
    have ce := (M.xcells hM 0 rfl).2
    clear hM hR hg
    by_cases hcc : k < n ∧ bad = 0
    · obtain ⟨hlt, rfl⟩ := hcc
      have HG1 : Hid (∀ j, j < k + 1 → (rwL s a1 b1 j).2.2 = 0) := fun j hj => by
        rcases Nat.lt_or_ge j k with h1 | h1
        · exact HG.out j h1
        · obtain rfl : j = k := by omega
          rw [HR.out]
      have hkb : k ≤ 900 := by
        rcases Nat.eq_zero_or_pos k with h0 | h0
        · omega
        · have hb1 : b1 = 0 := HG.out 0 h0
          have := rwL_bound (k := k - 1) (s := s) (a := a1) (b := b1) (by
            have h1 := H1.out
            rw [hb1] at h1
            exact (num_ok (k := 4) (m := 4) (by decide) (by decide) h1 (Nat.zero_le _)).2) (fun i hi => HG.out i (by omega))
          have h3 := Hs.out
          omega
      obtain ⟨u, hu, kx, x5, c5, e5, H5⟩ := w5_of s a 0
      have HS : Hid (rwL s a1 b1 (k + 1) = (L ++ [⟨u, hu, kx, x5⟩], c5, e5)) := rwL_step HR.out H5.one
      obtain ⟨x1, c1, e1, n2, c2, e2, c3, e3, m, c4, e4, q1, q1', q2, q3, q4, q5⟩ := H5
      have Q1 : Hid (rraw s a 0 32 = (x1, c1, e1)) := q1
      have Q1' : Hid (pad x1.data.toList = u) := q1'
      have Q2 : Hid (rnum s c1 e1 1 = (n2, c2, e2)) := q2
      have Q3 : Hid (rraw s c2 e2 n2 = (kx, c3, e3)) := q3
      have Q4 : Hid (rnum s c3 e3 1 = (m, c4, e4)) := q4
      have Q5 : Hid (rraw s c4 e4 m = (x5, c5, e5)) := q5
      have HU : Hid (u.length = 32) := hu
      clear q1 q1' q2 q3 q4 q5
      go_wp2_with (first | (go_at_call 21; refine (M.xid HM.out 0 rfl Q1.out).mono ?_; rw [Q1'.out]; rintro e w3 ⟨rfl, h3⟩; have HM : Hid (M (fun _ => False) w w3 [xr rb s c1 e1, blk bx (mxc v (.slice none 0 0)), rX v L, ids (.slice none 0 0) []]) := h3; clear h3 ce; obtain ⟨ob, hob⟩ : ∃ ob, w3.heap.size = ob := ⟨_, rfl⟩; have Hob : Hid (w3.heap.size = ob) := hob; clear hob) | (refine wl_buildL rfl rfl [(0, idv u)] rfl (built_row1 u HU.out) ?_; simp only [Act.put, List.setIfInBounds_toArray, List.set_cons_zero, List.set_cons_succ]) | ((with_reducible refine at_alloc 65 ?_); refine St.wl_alloc tyR rfl rfl Hob.out ?_; simp only [Act.put, List.setIfInBounds_toArray, List.set_cons_zero, List.set_cons_succ]) | ((with_reducible refine at_store 65 ?_); refine St.wl_storeN (W := w3) tyR rfl rfl rfl rfl rfl Hob.out (show _ = Value.agg (we ⟨u, HU.out, ByteArray.empty, ByteArray.empty⟩).toArray from rfl) (we_sz _) rfl (encW.all _) ?_; have HM : Hid (M (fun _ => False) w _ [xr rb s c1 e1, blk bx (mxc v (.slice none 0 0)), rX v L, ids (.slice none 0 0) [], blk ob (.cells (we ⟨u, HU.out, ByteArray.empty, ByteArray.empty⟩).toArray 65)]) := HM.out.alloc (.cells (we ⟨u, HU.out, ByteArray.empty, ByteArray.empty⟩).toArray 65) Hob.out) | (go_at_call 20; first | (refine (M.xnum HM.out 0 rfl Q2.out).mono ?_; rintro e w4 ⟨rfl, h4⟩; have HM : Hid _ := h4; clear h4) | (refine (M.xnum HM.out 0 rfl Q4.out).mono ?_; rintro e w6 ⟨rfl, h6⟩; have HM : Hid _ := h6; clear h6)) | (go_at_call 22; first | (refine (M.xraw HM.out 0 rfl Q3.out).mono ?_; rintro e w5 ⟨rfl, h5⟩; have HM : Hid _ := h5; clear h5) | (refine (M.xraw HM.out 0 rfl Q5.out).mono ?_; rintro e w7 ⟨rfl, h7⟩; have HM : Hid _ := h7; clear h7)) | ((with_reducible refine at_store 9 ?_); first | (refine wl_storeStr rfl rfl rfl rfl (show _ = Value.string kx from rfl) (rng_wk (HM.out.range 4 rfl)) (HM.out.free 4 rfl 32) ?_; have HM := HM.out.setc 4 rfl 32 (.string kx); rw [we_setk] at HM; have HM : Hid _ := HM) | (refine wl_storeStr rfl rfl rfl rfl (show _ = Value.string x5 from rfl) (rng_wv (HM.out.range 4 rfl)) (HM.out.free 4 rfl 33) ?_; have HM := HM.out.setc 4 rfl 33 (.string x5); rw [we_setv] at HM; have HM : Hid _ := HM)))
      have HM : Hid _ := HM.out.drew
      have c0 := HM.out.cell 1 rfl 0 (v := v) rfl
      refine Txt.wp_region_text (fun _ => True) [0, 0, 0, 0, 1, 1, 3, 4, 0, 0, 4] (by kernel_rfl) (by kernel_rfl) trivial ?_
      (repeat (first | (refine Txt.tl_pure (v := ?_) (by rfl) ?_ ?_; rotate_left; (focus (intro _; go_simp; try with_reducible rfl)); simp only [Act.put, List.setIfInBounds_toArray, List.set_cons_zero, List.set_cons_succ]) | (refine Txt.tl_load (v := v) (ty := 59) (by rfl) (by rfl) (by rfl) (by kernel_rfl) c0 ?_; simp only [Act.put, List.setIfInBounds_toArray, List.set_cons_zero, List.set_cons_succ]) | (refine Txt.tl_rowN (n := 34) (ty := 65) (by rfl) (by rfl) (by rfl) (HM.out.range 4 rfl) (by kernel_rfl) (we_len _) ?_; simp only [Act.put, List.setIfInBounds_toArray, List.set_cons_zero, List.set_cons_succ])))
      refine Txt.tl_alloc (by rfl) ?_
      refine St.wp_build slR (by decide) rfl (we_len _) rfl ?_
      have HM : Hid _ := HM.out.alloc (.cells (we ⟨u, HU.out, kx, x5⟩).toArray 65) rfl
      refine ⟨⟨Txt.Le.alloc _ _, trivial⟩, ?_⟩
      simp only [Act.put, List.setIfInBounds_toArray, List.set_cons_zero, List.set_cons_succ]
      refine Txt.tl_loud (by rfl) ?_
      refine St.wp_app1z encW slR (by decide) rfl rfl (HM.out.get 2 rfl) rfl ⟨u, HU.out, kx, x5⟩ rfl (HM.out.get 5 rfl) (by have := HLl.out; omega) ?_
      intro v8 w8 h8 k8 g8
      obtain ⟨ya, yn, yc, hy⟩ : ∃ a n c, v8 = .slice a n c := (by obtain ⟨a, c, e, _⟩ := h8.any; exact ⟨_, _, _, e⟩)
      have HM : Hid _ := HM.out.appR 2 rfl h8 k8 g8
      clear h8 k8 g8 c0
      subst hy
      refine ⟨trivial, ?_⟩
      simp only [Act.put, List.setIfInBounds_toArray, List.set_cons_zero, List.set_cons_succ]
      (repeat (first | (refine Txt.tl_pure (v := ?_) (by rfl) ?_ ?_; rotate_left; (focus (intro _; go_simp; try with_reducible rfl)); simp only [Act.put, List.setIfInBounds_toArray, List.set_cons_zero, List.set_cons_succ])))
      refine Txt.tl_loud (by rfl) ?_
      refine wp_storeRX rfl rfl rfl rfl (HM.out.cell 1 rfl 0 rfl) (HM.out.free 1 rfl 0) ?_
      have HM : Hid _ := HM.out.setc 1 rfl 0 (.slice ya yn yc)
      refine ⟨trivial, ?_⟩
      refine Txt.tl_nil ?_
      go_wp2
      go_roundw
      case rel => exact ⟨k + 1, .slice ya yn yc, _, c5, e5, by omega, by go_num, HM.out.take 4, HS.out, HG1.out⟩
      case measure => simp [intOf]; omega
    · obtain ⟨m, a3, b3, q6⟩ : ∃ x a' b', rnum s a bad 4 = (x, a', b') := ⟨_, _, _, rfl⟩
      have Q6 : Hid (rnum s a bad 4 = (m, a3, b3)) := q6
      clear q6
      by_cases hlt : k < n
      · have hbz : ¬ bad = 0 := fun h => hcc ⟨hlt, h⟩
        have HTl : Hid (Til (rwL s a1 b1) n k) := ⟨hk, HG.out, .inr (by rw [HR.out]; exact hbz)⟩
        clear hcc
        have HBz : Hid (bad ≠ 0) := hbz
        go_wp2_with (first | (go_at_call 20; refine (M.xnum HM.out 0 rfl Q6.out).mono ?_; rintro e w9 ⟨rfl, h9⟩; have HM : Hid (M (fun _ => False) w w9 [xr rb s a3 b3, blk bx (mxc v (.slice none 0 0)), rX v L, ids (.slice none 0 0) []]) := h9; clear h9 ce))
        have ha3 : a3 ≤ s.size := (show Ref.IsXa w9 rb s a3 b3 from HM.out.get 0 rfl).le
        go_loopw [10] (fun s10 wr => ∃ (j : Nat) (v2 : Value) (G : List Wd) (a : Nat) (bad : Int), j ≤ m ∧ s10 = .int .i64 j ∧ M (fun _ => False) w wr [xr rb s a bad, blk bx (mxc v v2), rX v L, ids v2 G] ∧ rdIds s a3 b3 j = (G, a, bad) ∧ (∀ i, i < j → (rdIds s a3 b3 i).2.2 = 0)) (fun s10 _ => m - (intOf s10).toNat)
        case atStart => exact ⟨0, _, [], a3, b3, Nat.zero_le _, by go_num, HM.out, rfl, fun j hj => absurd hj (Nat.not_lt_zero _)⟩
        case round =>
          clear HM
          obtain ⟨j, v2, G, a4, bad4, hj, rfl, hM, hR2, hg2⟩ := hrel
          have HM : Hid (M (fun _ => False) w wr [xr rb s a4 bad4, blk bx (mxc v v2), rX v L, ids v2 G]) := hM
          have HR2 : Hid (rdIds s a3 b3 j = (G, a4, bad4)) := hR2
          have HG2 : Hid (∀ i, i < j → (rdIds s a3 b3 i).2.2 = 0) := hg2
          have HGl : Hid (G.length = j) := by have := rdIds_len s a3 b3 j; rw [hR2] at this; exact this
          have ce := (M.xcells hM 0 rfl).2
          clear hM hR2 hg2
          by_cases hc2 : j < m ∧ bad4 = 0
          · obtain ⟨hlt2, rfl⟩ := hc2
            have HG3 : Hid (∀ i, i < j + 1 → (rdIds s a3 b3 i).2.2 = 0) := fun i hi => by
              rcases Nat.lt_or_ge i j with h1 | h1
              · exact HG2.out i h1
              · obtain rfl : i = j := by omega
                rw [HR2.out]
            have hjb : j ≤ 950 := by
              have := ids_bound (k := j) ha3 (fun i hi => HG3.out i (by omega))
              have := Hs.out
              omega
            obtain ⟨x, a', b', hx⟩ : ∃ x a' b', rraw s a4 0 32 = (x, a', b') := ⟨_, _, _, rfl⟩
            have HS2 : Hid (rdIds s a3 b3 (j + 1) = (G ++ [pad x.data.toList], a', b')) := rdIds_step HR2.out hx
            have Hx : Hid (rraw s a4 0 32 = (x, a', b')) := hx
            obtain ⟨u, hu⟩ : ∃ u, pad x.data.toList = u := ⟨_, rfl⟩
            have HUe : Hid (pad x.data.toList = u) := hu
            have HU : Hid (u.length = 32) := by show _ = _; rw [← hu]; exact pad_32 hx
            clear hx hu
            go_wp2
            have HM : Hid _ := HM.out.drew
            refine Txt.wp_region_text1 (fun w' => w'.cell? ⟨bx, 1, none⟩ = some v2) [0, 0, 0, 0, 2, 0, 4, 3, 4, 0, 0, 4] (by kernel_rfl) (by kernel_rfl) (HM.out.cell 1 rfl 1 rfl) ?_
            simp only [List.dropLast]
            (repeat (first | (refine Txt.tl_pure (v := ?_) (by rfl) ?_ ?_; rotate_left; (focus (intro _; go_simp; try with_reducible rfl)); simp only [Act.put, List.setIfInBounds_toArray, List.set_cons_zero, List.set_cons_succ])))
            refine Txt.tl_loadS (v := v2) (by rfl) (by rfl) (by rfl) (by kernel_rfl) (fun _ h => h) ?_
            simp only [Act.put, List.setIfInBounds_toArray, List.set_cons_zero, List.set_cons_succ]
            (repeat (first | (refine Txt.tl_pure (v := ?_) (by rfl) ?_ ?_; rotate_left; (focus (intro _; go_simp; try with_reducible rfl)); simp only [Act.put, List.setIfInBounds_toArray, List.set_cons_zero, List.set_cons_succ])))
            refine Txt.tl_call Tryz.func21 (by kernel_rfl) (by kernel_rfl) (by rfl) (by rfl) (by rfl) (M.xid HM.out 0 rfl Hx.out) ?_
            rw [HUe.out]
            rintro e w3 ⟨rfl, h3⟩
            have HM : Hid _ := h3
            clear h3
            refine ⟨_, rfl, HM.out.cell 1 rfl 1 rfl, ?_⟩
            simp only [Act.put, List.setIfInBounds_toArray, List.set_cons_zero, List.set_cons_succ]
            refine Txt.tl_alloc (by rfl) ?_
            refine Ids.wp_build rfl HU.out rfl ?_
            have HM : Hid _ := HM.out.alloc (.cells (u.map bv).toArray 38) rfl
            refine ⟨⟨Txt.Le.alloc _ _, HM.out.cell 1 rfl 1 rfl⟩, ?_⟩
            simp only [Act.put, List.setIfInBounds_toArray, List.set_cons_zero, List.set_cons_succ]
            refine Txt.tl_loud (by rfl) ?_
            refine Ids.wp_app1 rfl rfl (HM.out.get 3 rfl) rfl HU.out (HM.out.get 4 rfl) (by have := HGl.out; omega) ?_
            intro v8 w8 h8 k8 g8
            obtain ⟨ya, yn, yc, hy⟩ : ∃ a n c, v8 = .slice a n c := (by obtain ⟨a, c, e, _⟩ := h8.at; exact ⟨_, _, _, e⟩)
            have HM : Hid _ := HM.out.appI 3 rfl h8 k8 g8
            clear h8 k8 g8
            subst hy
            refine ⟨HM.out.cell 1 rfl 1 rfl, ?_⟩
            simp only [Act.put, List.setIfInBounds_toArray, List.set_cons_zero, List.set_cons_succ]
            (repeat (first | (refine Txt.tl_pure (v := ?_) (by rfl) ?_ ?_; rotate_left; (focus (intro _; go_simp; try with_reducible rfl)); simp only [Act.put, List.setIfInBounds_toArray, List.set_cons_zero, List.set_cons_succ])))
            refine Txt.tl_nil ?_
            refine Txt.tl_last (by rfl) (by rfl) ?_
            refine Sq.wp_storeI rfl rfl rfl rfl (HM.out.cell 1 rfl 1 rfl) (HM.out.free 1 rfl 1) ?_
            have HM : Hid _ := HM.out.setc 1 rfl 1 (.slice ya yn yc)
            go_wp2
            go_roundw
            case rel => exact ⟨j + 1, .slice ya yn yc, G ++ [u], a', b', by omega, by go_num, HM.out.take 4, by rw [HS2.out, HUe.out], HG3.out⟩
            case measure => simp [intOf]; omega
          · by_cases hb4 : bad4 = 0
            · exfalso
              subst hb4
              have hq := (num_stuck Q6.out HBz.out).2.2
              have h1 := ids_stuck s a3 b3 (by rw [hq]; exact HBz.out) j
              rw [HR2.out] at h1
              exact HBz.out (by rw [← hq]; exact h1.symm)
            · by_cases hlt2 : j < m
              · have HT2 : Hid (Til (rdIds s a3 b3) m j) := ⟨hj, HG2.out, .inr (by rw [HR2.out]; exact hb4)⟩
                have HRA : Hid (RwA s L G a4 bad4) := ⟨_, _, _, _, _, _, _, _, _, _, H1.out, HTl.out, HR.out, Q6.out, HT2.out, HR2.out⟩
                clear hc2
                have H4 : Hid (¬ bad4 = 0) := hb4
                go_wp2
                have HM : Hid _ := HM.out.drew
                have ce := (M.xcells HM.out 0 rfl).2
                refine Txt.wp_region_text (fun _ => True) [0, 0, 0, 1, 0, 0] (by kernel_rfl) (by kernel_rfl) trivial ?_
                (repeat (first | (refine Txt.tl_pure (v := ?_) (by rfl) ?_ ?_; rotate_left; (focus (intro _; go_simp; try with_reducible rfl)); simp only [Act.put, List.setIfInBounds_toArray, List.set_cons_zero, List.set_cons_succ]) | (refine Txt.tl_load (v := .int .i64 bad4) (ty := 3) (by rfl) (by rfl) (by rfl) (by kernel_rfl) ce ?_; simp only [Act.put, List.setIfInBounds_toArray, List.set_cons_zero, List.set_cons_succ])))
                refine Txt.tl_nil ?_
                go_wp2
                go_ret2
                exact ⟨L, G, a4, bad4, bad4, _, rfl, HRA.out, .inl ⟨H4.out, rfl⟩, HM.out.keep, fun _ => rfl, fun h => absurd h H4.out⟩
              · obtain rfl : m = j := by omega
                have HT2 : Hid (Til (rdIds s a3 b3) m m) := ⟨Nat.le_refl _, HG2.out, .inl rfl⟩
                have HRA : Hid (RwA s L G a4 bad4) := ⟨_, _, _, _, _, _, _, _, _, _, H1.out, HTl.out, HR.out, Q6.out, HT2.out, HR2.out⟩
                clear hc2 hlt2
                have H4 : Hid (¬ bad4 = 0) := hb4
                go_wp2
                have HM : Hid _ := HM.out.drew
                have ce := (M.xcells HM.out 0 rfl).2
                refine Txt.wp_region_text (fun _ => True) [0, 0, 0, 1, 0, 0] (by kernel_rfl) (by kernel_rfl) trivial ?_
                (repeat (first | (refine Txt.tl_pure (v := ?_) (by rfl) ?_ ?_; rotate_left; (focus (intro _; go_simp; try with_reducible rfl)); simp only [Act.put, List.setIfInBounds_toArray, List.set_cons_zero, List.set_cons_succ]) | (refine Txt.tl_load (v := .int .i64 bad4) (ty := 3) (by rfl) (by rfl) (by rfl) (by kernel_rfl) ce ?_; simp only [Act.put, List.setIfInBounds_toArray, List.set_cons_zero, List.set_cons_succ])))
                refine Txt.tl_nil ?_
                go_wp2
                go_ret2
                exact ⟨L, G, a4, bad4, bad4, _, rfl, HRA.out, .inl ⟨H4.out, rfl⟩, HM.out.keep, fun _ => rfl, fun h => absurd h H4.out⟩
      · obtain rfl : n = k := by omega
        have HTl : Hid (Til (rwL s a1 b1) n n) := ⟨Nat.le_refl _, HG.out, .inl rfl⟩
        clear hcc hlt
        go_wp2_with (first | (go_at_call 20; refine (M.xnum HM.out 0 rfl Q6.out).mono ?_; rintro e w9 ⟨rfl, h9⟩; have HM : Hid (M (fun _ => False) w w9 [xr rb s a3 b3, blk bx (mxc v (.slice none 0 0)), rX v L, ids (.slice none 0 0) []]) := h9; clear h9 ce))
        have ha3 : a3 ≤ s.size := (show Ref.IsXa w9 rb s a3 b3 from HM.out.get 0 rfl).le
        go_loopw [10] (fun s10 wr => ∃ (j : Nat) (v2 : Value) (G : List Wd) (a : Nat) (bad : Int), j ≤ m ∧ s10 = .int .i64 j ∧ M (fun _ => False) w wr [xr rb s a bad, blk bx (mxc v v2), rX v L, ids v2 G] ∧ rdIds s a3 b3 j = (G, a, bad) ∧ (∀ i, i < j → (rdIds s a3 b3 i).2.2 = 0)) (fun s10 _ => m - (intOf s10).toNat)
        case atStart => exact ⟨0, _, [], a3, b3, Nat.zero_le _, by go_num, HM.out, rfl, fun j hj => absurd hj (Nat.not_lt_zero _)⟩
        case round =>
          clear HM
          obtain ⟨j, v2, G, a4, bad4, hj, rfl, hM, hR2, hg2⟩ := hrel
          have HM : Hid (M (fun _ => False) w wr [xr rb s a4 bad4, blk bx (mxc v v2), rX v L, ids v2 G]) := hM
          have HR2 : Hid (rdIds s a3 b3 j = (G, a4, bad4)) := hR2
          have HG2 : Hid (∀ i, i < j → (rdIds s a3 b3 i).2.2 = 0) := hg2
          have HGl : Hid (G.length = j) := by have := rdIds_len s a3 b3 j; rw [hR2] at this; exact this
          have ce := (M.xcells hM 0 rfl).2
          clear hM hR2 hg2
          by_cases hc2 : j < m ∧ bad4 = 0
          · obtain ⟨hlt2, rfl⟩ := hc2
            have HG3 : Hid (∀ i, i < j + 1 → (rdIds s a3 b3 i).2.2 = 0) := fun i hi => by
              rcases Nat.lt_or_ge i j with h1 | h1
              · exact HG2.out i h1
              · obtain rfl : i = j := by omega
                rw [HR2.out]
            have hjb : j ≤ 950 := by
              have := ids_bound (k := j) ha3 (fun i hi => HG3.out i (by omega))
              have := Hs.out
              omega
            obtain ⟨x, a', b', hx⟩ : ∃ x a' b', rraw s a4 0 32 = (x, a', b') := ⟨_, _, _, rfl⟩
            have HS2 : Hid (rdIds s a3 b3 (j + 1) = (G ++ [pad x.data.toList], a', b')) := rdIds_step HR2.out hx
            have Hx : Hid (rraw s a4 0 32 = (x, a', b')) := hx
            obtain ⟨u, hu⟩ : ∃ u, pad x.data.toList = u := ⟨_, rfl⟩
            have HUe : Hid (pad x.data.toList = u) := hu
            have HU : Hid (u.length = 32) := by show _ = _; rw [← hu]; exact pad_32 hx
            clear hx hu
            go_wp2
            have HM : Hid _ := HM.out.drew
            refine Txt.wp_region_text1 (fun w' => w'.cell? ⟨bx, 1, none⟩ = some v2) [0, 0, 0, 0, 2, 0, 4, 3, 4, 0, 0, 4] (by kernel_rfl) (by kernel_rfl) (HM.out.cell 1 rfl 1 rfl) ?_
            simp only [List.dropLast]
            (repeat (first | (refine Txt.tl_pure (v := ?_) (by rfl) ?_ ?_; rotate_left; (focus (intro _; go_simp; try with_reducible rfl)); simp only [Act.put, List.setIfInBounds_toArray, List.set_cons_zero, List.set_cons_succ])))
            refine Txt.tl_loadS (v := v2) (by rfl) (by rfl) (by rfl) (by kernel_rfl) (fun _ h => h) ?_
            simp only [Act.put, List.setIfInBounds_toArray, List.set_cons_zero, List.set_cons_succ]
            (repeat (first | (refine Txt.tl_pure (v := ?_) (by rfl) ?_ ?_; rotate_left; (focus (intro _; go_simp; try with_reducible rfl)); simp only [Act.put, List.setIfInBounds_toArray, List.set_cons_zero, List.set_cons_succ])))
            refine Txt.tl_call Tryz.func21 (by kernel_rfl) (by kernel_rfl) (by rfl) (by rfl) (by rfl) (M.xid HM.out 0 rfl Hx.out) ?_
            rw [HUe.out]
            rintro e w3 ⟨rfl, h3⟩
            have HM : Hid _ := h3
            clear h3
            refine ⟨_, rfl, HM.out.cell 1 rfl 1 rfl, ?_⟩
            simp only [Act.put, List.setIfInBounds_toArray, List.set_cons_zero, List.set_cons_succ]
            refine Txt.tl_alloc (by rfl) ?_
            refine Ids.wp_build rfl HU.out rfl ?_
            have HM : Hid _ := HM.out.alloc (.cells (u.map bv).toArray 38) rfl
            refine ⟨⟨Txt.Le.alloc _ _, HM.out.cell 1 rfl 1 rfl⟩, ?_⟩
            simp only [Act.put, List.setIfInBounds_toArray, List.set_cons_zero, List.set_cons_succ]
            refine Txt.tl_loud (by rfl) ?_
            refine Ids.wp_app1 rfl rfl (HM.out.get 3 rfl) rfl HU.out (HM.out.get 4 rfl) (by have := HGl.out; omega) ?_
            intro v8 w8 h8 k8 g8
            obtain ⟨ya, yn, yc, hy⟩ : ∃ a n c, v8 = .slice a n c := (by obtain ⟨a, c, e, _⟩ := h8.at; exact ⟨_, _, _, e⟩)
            have HM : Hid _ := HM.out.appI 3 rfl h8 k8 g8
            clear h8 k8 g8
            subst hy
            refine ⟨HM.out.cell 1 rfl 1 rfl, ?_⟩
            simp only [Act.put, List.setIfInBounds_toArray, List.set_cons_zero, List.set_cons_succ]
            (repeat (first | (refine Txt.tl_pure (v := ?_) (by rfl) ?_ ?_; rotate_left; (focus (intro _; go_simp; try with_reducible rfl)); simp only [Act.put, List.setIfInBounds_toArray, List.set_cons_zero, List.set_cons_succ])))
            refine Txt.tl_nil ?_
            refine Txt.tl_last (by rfl) (by rfl) ?_
            refine Sq.wp_storeI rfl rfl rfl rfl (HM.out.cell 1 rfl 1 rfl) (HM.out.free 1 rfl 1) ?_
            have HM : Hid _ := HM.out.setc 1 rfl 1 (.slice ya yn yc)
            go_wp2
            go_roundw
            case rel => exact ⟨j + 1, .slice ya yn yc, G ++ [u], a', b', by omega, by go_num, HM.out.take 4, by rw [HS2.out, HUe.out], HG3.out⟩
            case measure => simp [intOf]; omega
          · by_cases hb4 : bad4 = 0
            · subst hb4
              obtain rfl : m = j := by omega
              have HT2 : Hid (Til (rdIds s a3 b3) m m) := ⟨Nat.le_refl _, HG2.out, .inl rfl⟩
              have HRA : Hid (RwA s L G a4 0) := ⟨_, _, _, _, _, _, _, _, _, _, H1.out, HTl.out, HR.out, Q6.out, HT2.out, HR2.out⟩
              clear hc2
              obtain ⟨la, lc, el, _⟩ := (show St.Own 65 34 we wr v L from HM.out.get 2 rfl).any
              subst el
              obtain ⟨ga, gc, eg, _⟩ := (show Ids.Own wr v2 G from HM.out.get 3 rfl).at
              subst eg
              obtain ⟨q, hq⟩ : ∃ q, L.length = q := ⟨_, rfl⟩
              obtain ⟨g, hg⟩ : ∃ g, G.length = g := ⟨_, rfl⟩
              have Hq : Hid (L.length = q) := hq
              have Hg : Hid (G.length = g) := hg
              rw [hq, hg] at HM
              obtain ⟨hq5, hg9⟩ := HRA.out.bound Hs.out
              rw [hq] at hq5
              rw [hg] at hg9
              clear hq hg
              go_wp2
              go_loopw [11] (fun s11 wr => ∃ (i : Nat), i ≤ q ∧ s11 = .int .i64 i ∧ M (fun _ => False) w wr [xr rb s a4 0, blk bx (mxc (.slice la q lc) (.slice ga g gc)), rX (.slice la q lc) L, ids (.slice ga g gc) G] ∧ (∀ d ∈ L.take i, badW d = false)) (fun s11 _ => q - (intOf s11).toNat)
              case atStart => exact ⟨0, Nat.zero_le _, by go_num, HM.out, fun d hd => by cases hd⟩
              case round =>
                clear HM ce
                obtain ⟨i, hi, rfl, hM, hck⟩ := hrel
                have HM : Hid (M (fun _ => False) w wr [xr rb s a4 0, blk bx (mxc (.slice la q lc) (.slice ga g gc)), rX (.slice la q lc) L, ids (.slice ga g gc) G]) := hM
                have HCk : Hid (∀ d ∈ L.take i, badW d = false) := hck
                clear hM hck
                have c0 := HM.out.cell 1 rfl 0 (v := .slice la q lc) rfl
                have c1 := HM.out.cell 1 rfl 1 (v := .slice ga g gc) rfl
                by_cases hlt3 : i < q
                · obtain ⟨x, hd⟩ : ∃ d, L[i]? = some d := ⟨_, List.getElem?_eq_getElem (by rw [Hq.out]; exact hlt3)⟩
                  have Hd : Hid (L[i]? = some x) := hd
                  obtain ⟨g0, o0, e0, _, hr0⟩ := (own_sl (show St.Own 65 34 we wr (.slice la q lc) L from HM.out.get 2 rfl)).2.lay.resolve_left (by omega)
                  subst e0
                  have d32 := rng_wk (hr0 i x hd)
                  have d33 := rng_wv (hr0 i x hd)
                  obtain ⟨hvk, hvv⟩ := HRA.out.vs x (List.mem_of_getElem? hd)
                  have hs3 := Hs.out
                  clear hr0 hd
                  have hbig : 16 < x.k.size ∨ (x.k.size ≤ 16 ∧ 16 < x.v.size) ∨ (x.k.size ≤ 16 ∧ x.v.size ≤ 16) := by omega
                  rcases hbig with h1 | ⟨h1, h2⟩ | ⟨h1, h2⟩
                  · have HBg : Hid (badW x = true) := by show _ = _; unfold badW; rw [decide_eq_true_eq]; exact .inl h1
                    go_wp2
                    go_ret2
                    exact ⟨L, G, a4, 0, 3, _, rfl, HRA.out, .inr ⟨rfl, .inl ⟨⟨x, List.mem_of_getElem? Hd.out, HBg.out⟩, rfl⟩⟩, HM.out.keep, fun _ => rfl, fun h => (by cases h)⟩
                  · have HBg : Hid (badW x = true) := by show _ = _; unfold badW; rw [decide_eq_true_eq]; exact .inr h2
                    go_wp2
                    go_ret2
                    exact ⟨L, G, a4, 0, 3, _, rfl, HRA.out, .inr ⟨rfl, .inl ⟨⟨x, List.mem_of_getElem? Hd.out, HBg.out⟩, rfl⟩⟩, HM.out.keep, fun _ => rfl, fun h => (by cases h)⟩
                  · have HBg : Hid (badW x = false) := by show _ = _; unfold badW; rw [decide_eq_false_iff_not]; omega
                    go_wp2
                    go_roundw
                    case rel => exact ⟨i + 1, by omega, by go_num, HM.out, fun d hd => ((mem_take2 Hd.out d).1 hd).elim (HCk.out d) (fun e => by rw [e]; exact HBg.out)⟩
                    case measure => simp [intOf]; omega
                · obtain rfl : q = i := by omega
                  have HTk : Hid (L.take q = L) := List.take_of_length_le (by rw [Hq.out]; exact Nat.le_refl _)
                  have HCa : Hid (∀ d ∈ L, badW d = false) := fun d hd => HCk.out d (by rw [HTk.out]; exact hd)
                  rcases endv_zf s a4 with he | he
                  · have Hev : Hid (endv s a4 0 = 0) := he
                    obtain ⟨r, hr⟩ : ∃ r, decide (G = IdL.setL G) = r := ⟨_, rfl⟩
                    have HIs : Hid (∀ w1, At w1 ga g G → Calls Tryz.prog 24 #[.slice ga g gc] w1 fun e w' => e = .returned (.bool r) ∧ Keep (fun _ => False) w1 w') := fun w1 h1 => by
                      have := xis_any w1 ga g gc G h1 (by omega)
                      rwa [hr] at this
                    have HOk : Hid (r = true ↔ FI s L G a4 0) := by
                      show _ ↔ _
                      rw [← hr, decide_eq_true_iff, FI_zero, ← IdL.srt_iff]
                      exact ⟨fun h => ⟨he, h.symm⟩, fun h => h.2.symm⟩
                    clear he hr
                    go_wp2_with (first | (go_at_call 23; refine (M.xend HM.out 0 rfl Hev.out).mono ?_; rintro e w7 ⟨rfl, h7⟩; replace h7 := h7.symm; subst h7) | (go_at_call 24; refine (HIs.out _ (Sq.own_idat (HM.out.get 3 rfl))).mono ?_; rintro e w8 ⟨rfl, k8⟩; have HM : Hid _ := HM.out.calm k8; clear k8))
                    clear c0 c1
                    go_loopw [13, 12] (fun s13 s12 wr => ∃ (i : Nat) (ok : Bool), i ≤ q ∧ s13 = .int .i64 i ∧ s12 = .bool ok ∧ M (fun _ => False) w wr [xr rb s a4 0, blk bx (mxc (.slice la q lc) (.slice ga g gc)), rX (.slice la q lc) L, ids (.slice ga g gc) G] ∧ (ok = true ↔ FI s L G a4 i)) (fun s13 _ _ => q - (intOf s13).toNat)
                    case atStart => exact ⟨0, r, Nat.zero_le _, by go_num, rfl, HM.out, HOk.out⟩
                    case round =>
                      clear HM HOk
                      obtain ⟨i, ok, hi4, rfl, rfl, hM, hok⟩ := hrel
                      have HM : Hid (M (fun _ => False) w wr [xr rb s a4 0, blk bx (mxc (.slice la q lc) (.slice ga g gc)), rX (.slice la q lc) L, ids (.slice ga g gc) G]) := hM
                      have HOk : Hid (ok = true ↔ FI s L G a4 i) := hok
                      clear hM hok
                      have c0 := HM.out.cell 1 rfl 0 (v := .slice la q lc) rfl
                      by_cases hlt4 : i < q
                      · obtain ⟨x, hd⟩ : ∃ d, L[i]? = some d := ⟨_, List.getElem?_eq_getElem (by rw [Hq.out]; exact hlt4)⟩
                        have Hd : Hid (L[i]? = some x) := hd
                        have HU : Hid (x.u.length = 32) := x.hu
                        have HSt : Hid _ := FI_step (s := s) (G := G) (a := a4) hd
                        obtain ⟨g0, o0, e0, _, _⟩ := (own_sl (show St.Own 65 34 we wr (.slice la q lc) L from HM.out.get 2 rfl)).2.lay.resolve_left (by omega)
                        subst e0
                        clear hd
                        by_cases h0 : i = 0
                        · subst h0
                          by_cases hm : x.u ∈ G
                          · have HF : Hid (false = true ↔ FI s L G a4 (0 + 1)) := ⟨fun h => (by cases h), fun h => absurd hm (HSt.out.1 h).2.2⟩
                            go_wp2
                            have HM : Hid _ := HM.out.drew
                            have c0 := HM.out.cell 1 rfl 0 (v := .slice (some ⟨g0, o0, none⟩) q lc) rfl
                            have c1 := HM.out.cell 1 rfl 1 (v := .slice ga g gc) rfl
                            have RX : Hid (World.rangeAt _ g0 (o0 + 0 * 34) (we x)) := ((own_sl (show St.Own 65 34 we _ (.slice (some ⟨g0, o0, none⟩) q lc) L from HM.out.get 2 rfl)).2.lay.resolve_left (by omega) |> fun ⟨_, _, e, _, hr⟩ => (by cases e; exact hr 0 x Hd.out))
                            have RU : Hid _ := rng_wu RX.out
                            have RY : Hid _ := RX.out
                            try (have RY : Hid (World.rangeAt _ g0 (o0 + (i - 1) * 34) (we y)) := ((own_sl (show St.Own 65 34 we _ (.slice (some ⟨g0, o0, none⟩) q lc) L from HM.out.get 2 rfl)).2.lay.resolve_left (by omega) |> fun ⟨_, _, e, _, hr⟩ => (by cases e; exact hr (i - 1) y Hy.out)))
                            refine Txt.wp_region_text (fun _ => True) [0, 0, 0, 0, 0, 0, 1, 0, 0, 0, 1, 0, 0, 0, 1, 0, 0, 1, 4, 0, 0, 0, 0, 0, 0, 1, 0, 0, 0, 1, 0, 0, 0, 1, 4, 0] (by kernel_rfl) (by kernel_rfl) trivial ?_
                            (repeat (first | ((with_reducible refine at_dt 148 ?_); refine Txt.tl_pure (v := .int .i64 ((i - 1 : Nat) : Int)) (by rfl) ?_ ?_; (focus (intro _; go_simp; try exact hwr)); simp only [Act.put, List.setIfInBounds_toArray, List.set_cons_zero, List.set_cons_succ]) | (refine Txt.tl_pure (v := ?_) (by rfl) ?_ ?_; rotate_left; (focus (intro _; go_simp; try with_reducible rfl)); simp only [Act.put, List.setIfInBounds_toArray, List.set_cons_zero, List.set_cons_succ]) | (refine Txt.tl_skip (by rfl) trivial ?_; simp only [Act.put, List.setIfInBounds_toArray, List.set_cons_zero, List.set_cons_succ]) | (refine Txt.tl_load (v := ?_) (by rfl) (by rfl) (by rfl) (by kernel_rfl) ?_ ?_; rotate_left; (focus assumption); simp only [Act.put, List.setIfInBounds_toArray, List.set_cons_zero, List.set_cons_succ]) | (refine Txt.tl_rowN (n := 34) (ty := 65) (by rfl) (by rfl) (by rfl) RY.out (by kernel_rfl) (we_len _) ?_; simp only [Act.put, List.setIfInBounds_toArray, List.set_cons_zero, List.set_cons_succ]) | (refine Txt.tl_rowN (n := 34) (ty := 65) (by rfl) (by rfl) (by rfl) RX.out (by kernel_rfl) (we_len _) ?_; simp only [Act.put, List.setIfInBounds_toArray, List.set_cons_zero, List.set_cons_succ]) | (refine Txt.tl_rowN (n := 32) (ty := 38) (by rfl) (by rfl) (by rfl) RU.out (by kernel_rfl) (by rw [List.length_map]; exact HU.out) ?_; simp only [Act.put, List.setIfInBounds_toArray, List.set_cons_zero, List.set_cons_succ])))
                            refine Txt.tl_call Tryz.func26 (by kernel_rfl) (by kernel_rfl) (by rfl) (by rfl) (by rfl) (xhas_any _ ga g gc G (Sq.own_idat (c := gc) (HM.out.get 3 rfl)) (by omega) x.u x.hu) ?_
                            rintro e w8 ⟨rfl, k8⟩
                            have HM : Hid _ := HM.out.calm k8
                            clear k8
                            refine ⟨_, rfl, trivial, ?_⟩
                            simp only [Act.put, List.setIfInBounds_toArray, List.set_cons_zero, List.set_cons_succ]
                            rw [decide_eq_true hm]
                            clear hm
                            (repeat (first | ((with_reducible refine at_dt 148 ?_); refine Txt.tl_pure (v := .int .i64 ((i - 1 : Nat) : Int)) (by rfl) ?_ ?_; (focus (intro _; go_simp; try exact hwr)); simp only [Act.put, List.setIfInBounds_toArray, List.set_cons_zero, List.set_cons_succ]) | (refine Txt.tl_pure (v := ?_) (by rfl) ?_ ?_; rotate_left; (focus (intro _; go_simp; try with_reducible rfl)); simp only [Act.put, List.setIfInBounds_toArray, List.set_cons_zero, List.set_cons_succ]) | (refine Txt.tl_skip (by rfl) trivial ?_; simp only [Act.put, List.setIfInBounds_toArray, List.set_cons_zero, List.set_cons_succ]) | (refine Txt.tl_load (v := ?_) (by rfl) (by rfl) (by rfl) (by kernel_rfl) ?_ ?_; rotate_left; (focus assumption); simp only [Act.put, List.setIfInBounds_toArray, List.set_cons_zero, List.set_cons_succ]) | (refine Txt.tl_rowN (n := 34) (ty := 65) (by rfl) (by rfl) (by rfl) RY.out (by kernel_rfl) (we_len _) ?_; simp only [Act.put, List.setIfInBounds_toArray, List.set_cons_zero, List.set_cons_succ]) | (refine Txt.tl_rowN (n := 34) (ty := 65) (by rfl) (by rfl) (by rfl) RX.out (by kernel_rfl) (we_len _) ?_; simp only [Act.put, List.setIfInBounds_toArray, List.set_cons_zero, List.set_cons_succ]) | (refine Txt.tl_rowN (n := 32) (ty := 38) (by rfl) (by rfl) (by rfl) RU.out (by kernel_rfl) (by rw [List.length_map]; exact HU.out) ?_; simp only [Act.put, List.setIfInBounds_toArray, List.set_cons_zero, List.set_cons_succ])))
                            refine Txt.tl_nil ?_
                            clear c0 c1 RX RU RY
                            go_wp2
                            go_roundw
                            case rel => exact ⟨0 + 1, false, by omega, by go_num, rfl, HM.out, HF.out⟩
                            case measure => simp [intOf]; omega
                          · have HF : Hid (ok = true ↔ FI s L G a4 (0 + 1)) := by rw [HOk.out, HSt.out]; exact ⟨fun h => ⟨h, .inl rfl, hm⟩, fun h => h.1⟩
                            go_wp2
                            have HM : Hid _ := HM.out.drew
                            have c0 := HM.out.cell 1 rfl 0 (v := .slice (some ⟨g0, o0, none⟩) q lc) rfl
                            have c1 := HM.out.cell 1 rfl 1 (v := .slice ga g gc) rfl
                            have RX : Hid (World.rangeAt _ g0 (o0 + 0 * 34) (we x)) := ((own_sl (show St.Own 65 34 we _ (.slice (some ⟨g0, o0, none⟩) q lc) L from HM.out.get 2 rfl)).2.lay.resolve_left (by omega) |> fun ⟨_, _, e, _, hr⟩ => (by cases e; exact hr 0 x Hd.out))
                            have RU : Hid _ := rng_wu RX.out
                            have RY : Hid _ := RX.out
                            try (have RY : Hid (World.rangeAt _ g0 (o0 + (i - 1) * 34) (we y)) := ((own_sl (show St.Own 65 34 we _ (.slice (some ⟨g0, o0, none⟩) q lc) L from HM.out.get 2 rfl)).2.lay.resolve_left (by omega) |> fun ⟨_, _, e, _, hr⟩ => (by cases e; exact hr (i - 1) y Hy.out)))
                            refine Txt.wp_region_text (fun _ => True) [0, 0, 0, 0, 0, 0, 1, 0, 0, 0, 1, 0, 0, 0, 1, 0, 0, 1, 4, 0, 0, 0, 0, 0, 0, 1, 0, 0, 0, 1, 0, 0, 0, 1, 4, 0] (by kernel_rfl) (by kernel_rfl) trivial ?_
                            (repeat (first | ((with_reducible refine at_dt 148 ?_); refine Txt.tl_pure (v := .int .i64 ((i - 1 : Nat) : Int)) (by rfl) ?_ ?_; (focus (intro _; go_simp; try exact hwr)); simp only [Act.put, List.setIfInBounds_toArray, List.set_cons_zero, List.set_cons_succ]) | (refine Txt.tl_pure (v := ?_) (by rfl) ?_ ?_; rotate_left; (focus (intro _; go_simp; try with_reducible rfl)); simp only [Act.put, List.setIfInBounds_toArray, List.set_cons_zero, List.set_cons_succ]) | (refine Txt.tl_skip (by rfl) trivial ?_; simp only [Act.put, List.setIfInBounds_toArray, List.set_cons_zero, List.set_cons_succ]) | (refine Txt.tl_load (v := ?_) (by rfl) (by rfl) (by rfl) (by kernel_rfl) ?_ ?_; rotate_left; (focus assumption); simp only [Act.put, List.setIfInBounds_toArray, List.set_cons_zero, List.set_cons_succ]) | (refine Txt.tl_rowN (n := 34) (ty := 65) (by rfl) (by rfl) (by rfl) RY.out (by kernel_rfl) (we_len _) ?_; simp only [Act.put, List.setIfInBounds_toArray, List.set_cons_zero, List.set_cons_succ]) | (refine Txt.tl_rowN (n := 34) (ty := 65) (by rfl) (by rfl) (by rfl) RX.out (by kernel_rfl) (we_len _) ?_; simp only [Act.put, List.setIfInBounds_toArray, List.set_cons_zero, List.set_cons_succ]) | (refine Txt.tl_rowN (n := 32) (ty := 38) (by rfl) (by rfl) (by rfl) RU.out (by kernel_rfl) (by rw [List.length_map]; exact HU.out) ?_; simp only [Act.put, List.setIfInBounds_toArray, List.set_cons_zero, List.set_cons_succ])))
                            refine Txt.tl_call Tryz.func26 (by kernel_rfl) (by kernel_rfl) (by rfl) (by rfl) (by rfl) (xhas_any _ ga g gc G (Sq.own_idat (c := gc) (HM.out.get 3 rfl)) (by omega) x.u x.hu) ?_
                            rintro e w8 ⟨rfl, k8⟩
                            have HM : Hid _ := HM.out.calm k8
                            clear k8
                            refine ⟨_, rfl, trivial, ?_⟩
                            simp only [Act.put, List.setIfInBounds_toArray, List.set_cons_zero, List.set_cons_succ]
                            rw [decide_eq_false hm]
                            clear hm
                            (repeat (first | ((with_reducible refine at_dt 148 ?_); refine Txt.tl_pure (v := .int .i64 ((i - 1 : Nat) : Int)) (by rfl) ?_ ?_; (focus (intro _; go_simp; try exact hwr)); simp only [Act.put, List.setIfInBounds_toArray, List.set_cons_zero, List.set_cons_succ]) | (refine Txt.tl_pure (v := ?_) (by rfl) ?_ ?_; rotate_left; (focus (intro _; go_simp; try with_reducible rfl)); simp only [Act.put, List.setIfInBounds_toArray, List.set_cons_zero, List.set_cons_succ]) | (refine Txt.tl_skip (by rfl) trivial ?_; simp only [Act.put, List.setIfInBounds_toArray, List.set_cons_zero, List.set_cons_succ]) | (refine Txt.tl_load (v := ?_) (by rfl) (by rfl) (by rfl) (by kernel_rfl) ?_ ?_; rotate_left; (focus assumption); simp only [Act.put, List.setIfInBounds_toArray, List.set_cons_zero, List.set_cons_succ]) | (refine Txt.tl_rowN (n := 34) (ty := 65) (by rfl) (by rfl) (by rfl) RY.out (by kernel_rfl) (we_len _) ?_; simp only [Act.put, List.setIfInBounds_toArray, List.set_cons_zero, List.set_cons_succ]) | (refine Txt.tl_rowN (n := 34) (ty := 65) (by rfl) (by rfl) (by rfl) RX.out (by kernel_rfl) (we_len _) ?_; simp only [Act.put, List.setIfInBounds_toArray, List.set_cons_zero, List.set_cons_succ]) | (refine Txt.tl_rowN (n := 32) (ty := 38) (by rfl) (by rfl) (by rfl) RU.out (by kernel_rfl) (by rw [List.length_map]; exact HU.out) ?_; simp only [Act.put, List.setIfInBounds_toArray, List.set_cons_zero, List.set_cons_succ])))
                            refine Txt.tl_nil ?_
                            clear c0 c1 RX RU RY
                            go_wp2
                            go_roundw
                            case rel => exact ⟨0 + 1, ok, by omega, by go_num, rfl, HM.out, HF.out⟩
                            case measure => simp [intOf]; omega
                        · obtain ⟨y, hy⟩ : ∃ y, L[i - 1]? = some y := ⟨_, List.getElem?_eq_getElem (by rw [Hq.out]; omega)⟩
                          have Hy : Hid (L[i - 1]? = some y) := hy
                          have hi0 : 0 < i := by omega
                          have hi1 : (0 : Int) < (i : Int) := by omega
                          have hwr : IntKind.i64.wrap ((i : Int) - 1) = ((i - 1 : Nat) : Int) := by rw [IntKind.wrap_i64]; omega
                          have hiq : i - 1 < q := by omega
                          by_cases hyx : ltW y x
                          · have HLs : Hid (∀ w, Calls Tryz.prog 25 #[wv y, wv x] w fun e w' => e = .returned (.bool true) ∧ Keep (fun _ => False) w w') := fun w => (rowless_any w y x).mono fun e w' ⟨⟨r, he, hr⟩, hk⟩ => ⟨by rw [he, hr.2 hyx], hk⟩
                            by_cases hm : x.u ∈ G
                            · have HF : Hid (false = true ↔ FI s L G a4 (i + 1)) := ⟨fun h => (by cases h), fun h => absurd hm (HSt.out.1 h).2.2⟩
                              clear hyx hy
                              go_wp2
                              have HM : Hid _ := HM.out.drew
                              have c0 := HM.out.cell 1 rfl 0 (v := .slice (some ⟨g0, o0, none⟩) q lc) rfl
                              have c1 := HM.out.cell 1 rfl 1 (v := .slice ga g gc) rfl
                              have RX : Hid (World.rangeAt _ g0 (o0 + i * 34) (we x)) := ((own_sl (show St.Own 65 34 we _ (.slice (some ⟨g0, o0, none⟩) q lc) L from HM.out.get 2 rfl)).2.lay.resolve_left (by omega) |> fun ⟨_, _, e, _, hr⟩ => (by cases e; exact hr i x Hd.out))
                              have RU : Hid _ := rng_wu RX.out
                              have RY : Hid _ := RX.out
                              try (have RY : Hid (World.rangeAt _ g0 (o0 + (i - 1) * 34) (we y)) := ((own_sl (show St.Own 65 34 we _ (.slice (some ⟨g0, o0, none⟩) q lc) L from HM.out.get 2 rfl)).2.lay.resolve_left (by omega) |> fun ⟨_, _, e, _, hr⟩ => (by cases e; exact hr (i - 1) y Hy.out)))
                              refine Txt.wp_region_text (fun _ => True) [0, 0, 0, 0, 0, 0, 1, 0, 0, 0, 1, 0, 0, 0, 1, 0, 0, 1, 4, 0, 0, 0, 0, 0, 0, 1, 0, 0, 0, 1, 0, 0, 0, 1, 4, 0] (by kernel_rfl) (by kernel_rfl) trivial ?_
                              (repeat (first | ((with_reducible refine at_dt 148 ?_); refine Txt.tl_pure (v := .int .i64 ((i - 1 : Nat) : Int)) (by rfl) ?_ ?_; (focus (intro _; go_simp; try exact hwr)); simp only [Act.put, List.setIfInBounds_toArray, List.set_cons_zero, List.set_cons_succ]) | (refine Txt.tl_pure (v := ?_) (by rfl) ?_ ?_; rotate_left; (focus (intro _; go_simp; try with_reducible rfl)); simp only [Act.put, List.setIfInBounds_toArray, List.set_cons_zero, List.set_cons_succ]) | (refine Txt.tl_skip (by rfl) trivial ?_; simp only [Act.put, List.setIfInBounds_toArray, List.set_cons_zero, List.set_cons_succ]) | (refine Txt.tl_load (v := ?_) (by rfl) (by rfl) (by rfl) (by kernel_rfl) ?_ ?_; rotate_left; (focus assumption); simp only [Act.put, List.setIfInBounds_toArray, List.set_cons_zero, List.set_cons_succ]) | (refine Txt.tl_rowN (n := 34) (ty := 65) (by rfl) (by rfl) (by rfl) RY.out (by kernel_rfl) (we_len _) ?_; simp only [Act.put, List.setIfInBounds_toArray, List.set_cons_zero, List.set_cons_succ]) | (refine Txt.tl_rowN (n := 34) (ty := 65) (by rfl) (by rfl) (by rfl) RX.out (by kernel_rfl) (we_len _) ?_; simp only [Act.put, List.setIfInBounds_toArray, List.set_cons_zero, List.set_cons_succ]) | (refine Txt.tl_rowN (n := 32) (ty := 38) (by rfl) (by rfl) (by rfl) RU.out (by kernel_rfl) (by rw [List.length_map]; exact HU.out) ?_; simp only [Act.put, List.setIfInBounds_toArray, List.set_cons_zero, List.set_cons_succ])))
                              refine Txt.tl_call Tryz.func25 (by kernel_rfl) (by kernel_rfl) (by rfl) (by rfl) (by rfl) (HLs.out _) ?_
                              rintro e w7 ⟨rfl, k7⟩
                              have HM : Hid _ := HM.out.calm k7
                              clear k7 RX RU RY c0 c1
                              have c0 := HM.out.cell 1 rfl 0 (v := .slice (some ⟨g0, o0, none⟩) q lc) rfl
                              have c1 := HM.out.cell 1 rfl 1 (v := .slice ga g gc) rfl
                              have RX : Hid (World.rangeAt _ g0 (o0 + i * 34) (we x)) := ((own_sl (show St.Own 65 34 we _ (.slice (some ⟨g0, o0, none⟩) q lc) L from HM.out.get 2 rfl)).2.lay.resolve_left (by omega) |> fun ⟨_, _, e, _, hr⟩ => (by cases e; exact hr i x Hd.out))
                              have RU : Hid _ := rng_wu RX.out
                              have RY : Hid _ := RX.out
                              refine ⟨_, rfl, trivial, ?_⟩
                              simp only [Act.put, List.setIfInBounds_toArray, List.set_cons_zero, List.set_cons_succ]
                              (repeat (first | ((with_reducible refine at_dt 148 ?_); refine Txt.tl_pure (v := .int .i64 ((i - 1 : Nat) : Int)) (by rfl) ?_ ?_; (focus (intro _; go_simp; try exact hwr)); simp only [Act.put, List.setIfInBounds_toArray, List.set_cons_zero, List.set_cons_succ]) | (refine Txt.tl_pure (v := ?_) (by rfl) ?_ ?_; rotate_left; (focus (intro _; go_simp; try with_reducible rfl)); simp only [Act.put, List.setIfInBounds_toArray, List.set_cons_zero, List.set_cons_succ]) | (refine Txt.tl_skip (by rfl) trivial ?_; simp only [Act.put, List.setIfInBounds_toArray, List.set_cons_zero, List.set_cons_succ]) | (refine Txt.tl_load (v := ?_) (by rfl) (by rfl) (by rfl) (by kernel_rfl) ?_ ?_; rotate_left; (focus assumption); simp only [Act.put, List.setIfInBounds_toArray, List.set_cons_zero, List.set_cons_succ]) | (refine Txt.tl_rowN (n := 34) (ty := 65) (by rfl) (by rfl) (by rfl) RY.out (by kernel_rfl) (we_len _) ?_; simp only [Act.put, List.setIfInBounds_toArray, List.set_cons_zero, List.set_cons_succ]) | (refine Txt.tl_rowN (n := 34) (ty := 65) (by rfl) (by rfl) (by rfl) RX.out (by kernel_rfl) (we_len _) ?_; simp only [Act.put, List.setIfInBounds_toArray, List.set_cons_zero, List.set_cons_succ]) | (refine Txt.tl_rowN (n := 32) (ty := 38) (by rfl) (by rfl) (by rfl) RU.out (by kernel_rfl) (by rw [List.length_map]; exact HU.out) ?_; simp only [Act.put, List.setIfInBounds_toArray, List.set_cons_zero, List.set_cons_succ])))
                              refine Txt.tl_call Tryz.func26 (by kernel_rfl) (by kernel_rfl) (by rfl) (by rfl) (by rfl) (xhas_any _ ga g gc G (Sq.own_idat (c := gc) (HM.out.get 3 rfl)) (by omega) x.u x.hu) ?_
                              rintro e w8 ⟨rfl, k8⟩
                              have HM : Hid _ := HM.out.calm k8
                              clear k8
                              refine ⟨_, rfl, trivial, ?_⟩
                              simp only [Act.put, List.setIfInBounds_toArray, List.set_cons_zero, List.set_cons_succ]
                              rw [decide_eq_true hm]
                              clear hm
                              (repeat (first | ((with_reducible refine at_dt 148 ?_); refine Txt.tl_pure (v := .int .i64 ((i - 1 : Nat) : Int)) (by rfl) ?_ ?_; (focus (intro _; go_simp; try exact hwr)); simp only [Act.put, List.setIfInBounds_toArray, List.set_cons_zero, List.set_cons_succ]) | (refine Txt.tl_pure (v := ?_) (by rfl) ?_ ?_; rotate_left; (focus (intro _; go_simp; try with_reducible rfl)); simp only [Act.put, List.setIfInBounds_toArray, List.set_cons_zero, List.set_cons_succ]) | (refine Txt.tl_skip (by rfl) trivial ?_; simp only [Act.put, List.setIfInBounds_toArray, List.set_cons_zero, List.set_cons_succ]) | (refine Txt.tl_load (v := ?_) (by rfl) (by rfl) (by rfl) (by kernel_rfl) ?_ ?_; rotate_left; (focus assumption); simp only [Act.put, List.setIfInBounds_toArray, List.set_cons_zero, List.set_cons_succ]) | (refine Txt.tl_rowN (n := 34) (ty := 65) (by rfl) (by rfl) (by rfl) RY.out (by kernel_rfl) (we_len _) ?_; simp only [Act.put, List.setIfInBounds_toArray, List.set_cons_zero, List.set_cons_succ]) | (refine Txt.tl_rowN (n := 34) (ty := 65) (by rfl) (by rfl) (by rfl) RX.out (by kernel_rfl) (we_len _) ?_; simp only [Act.put, List.setIfInBounds_toArray, List.set_cons_zero, List.set_cons_succ]) | (refine Txt.tl_rowN (n := 32) (ty := 38) (by rfl) (by rfl) (by rfl) RU.out (by kernel_rfl) (by rw [List.length_map]; exact HU.out) ?_; simp only [Act.put, List.setIfInBounds_toArray, List.set_cons_zero, List.set_cons_succ])))
                              refine Txt.tl_nil ?_
                              clear c0 c1 RX RU RY
                              go_wp2
                              go_roundw
                              case rel => exact ⟨i + 1, false, by omega, by go_num, rfl, HM.out, HF.out⟩
                              case measure => simp [intOf]; omega
                            · have HF : Hid (ok = true ↔ FI s L G a4 (i + 1)) := by rw [HOk.out, HSt.out]; exact ⟨fun h => ⟨h, .inr ⟨y, hy, hyx⟩, hm⟩, fun h => h.1⟩
                              clear hyx hy
                              go_wp2
                              have HM : Hid _ := HM.out.drew
                              have c0 := HM.out.cell 1 rfl 0 (v := .slice (some ⟨g0, o0, none⟩) q lc) rfl
                              have c1 := HM.out.cell 1 rfl 1 (v := .slice ga g gc) rfl
                              have RX : Hid (World.rangeAt _ g0 (o0 + i * 34) (we x)) := ((own_sl (show St.Own 65 34 we _ (.slice (some ⟨g0, o0, none⟩) q lc) L from HM.out.get 2 rfl)).2.lay.resolve_left (by omega) |> fun ⟨_, _, e, _, hr⟩ => (by cases e; exact hr i x Hd.out))
                              have RU : Hid _ := rng_wu RX.out
                              have RY : Hid _ := RX.out
                              try (have RY : Hid (World.rangeAt _ g0 (o0 + (i - 1) * 34) (we y)) := ((own_sl (show St.Own 65 34 we _ (.slice (some ⟨g0, o0, none⟩) q lc) L from HM.out.get 2 rfl)).2.lay.resolve_left (by omega) |> fun ⟨_, _, e, _, hr⟩ => (by cases e; exact hr (i - 1) y Hy.out)))
                              refine Txt.wp_region_text (fun _ => True) [0, 0, 0, 0, 0, 0, 1, 0, 0, 0, 1, 0, 0, 0, 1, 0, 0, 1, 4, 0, 0, 0, 0, 0, 0, 1, 0, 0, 0, 1, 0, 0, 0, 1, 4, 0] (by kernel_rfl) (by kernel_rfl) trivial ?_
                              (repeat (first | ((with_reducible refine at_dt 148 ?_); refine Txt.tl_pure (v := .int .i64 ((i - 1 : Nat) : Int)) (by rfl) ?_ ?_; (focus (intro _; go_simp; try exact hwr)); simp only [Act.put, List.setIfInBounds_toArray, List.set_cons_zero, List.set_cons_succ]) | (refine Txt.tl_pure (v := ?_) (by rfl) ?_ ?_; rotate_left; (focus (intro _; go_simp; try with_reducible rfl)); simp only [Act.put, List.setIfInBounds_toArray, List.set_cons_zero, List.set_cons_succ]) | (refine Txt.tl_skip (by rfl) trivial ?_; simp only [Act.put, List.setIfInBounds_toArray, List.set_cons_zero, List.set_cons_succ]) | (refine Txt.tl_load (v := ?_) (by rfl) (by rfl) (by rfl) (by kernel_rfl) ?_ ?_; rotate_left; (focus assumption); simp only [Act.put, List.setIfInBounds_toArray, List.set_cons_zero, List.set_cons_succ]) | (refine Txt.tl_rowN (n := 34) (ty := 65) (by rfl) (by rfl) (by rfl) RY.out (by kernel_rfl) (we_len _) ?_; simp only [Act.put, List.setIfInBounds_toArray, List.set_cons_zero, List.set_cons_succ]) | (refine Txt.tl_rowN (n := 34) (ty := 65) (by rfl) (by rfl) (by rfl) RX.out (by kernel_rfl) (we_len _) ?_; simp only [Act.put, List.setIfInBounds_toArray, List.set_cons_zero, List.set_cons_succ]) | (refine Txt.tl_rowN (n := 32) (ty := 38) (by rfl) (by rfl) (by rfl) RU.out (by kernel_rfl) (by rw [List.length_map]; exact HU.out) ?_; simp only [Act.put, List.setIfInBounds_toArray, List.set_cons_zero, List.set_cons_succ])))
                              refine Txt.tl_call Tryz.func25 (by kernel_rfl) (by kernel_rfl) (by rfl) (by rfl) (by rfl) (HLs.out _) ?_
                              rintro e w7 ⟨rfl, k7⟩
                              have HM : Hid _ := HM.out.calm k7
                              clear k7 RX RU RY c0 c1
                              have c0 := HM.out.cell 1 rfl 0 (v := .slice (some ⟨g0, o0, none⟩) q lc) rfl
                              have c1 := HM.out.cell 1 rfl 1 (v := .slice ga g gc) rfl
                              have RX : Hid (World.rangeAt _ g0 (o0 + i * 34) (we x)) := ((own_sl (show St.Own 65 34 we _ (.slice (some ⟨g0, o0, none⟩) q lc) L from HM.out.get 2 rfl)).2.lay.resolve_left (by omega) |> fun ⟨_, _, e, _, hr⟩ => (by cases e; exact hr i x Hd.out))
                              have RU : Hid _ := rng_wu RX.out
                              have RY : Hid _ := RX.out
                              refine ⟨_, rfl, trivial, ?_⟩
                              simp only [Act.put, List.setIfInBounds_toArray, List.set_cons_zero, List.set_cons_succ]
                              (repeat (first | ((with_reducible refine at_dt 148 ?_); refine Txt.tl_pure (v := .int .i64 ((i - 1 : Nat) : Int)) (by rfl) ?_ ?_; (focus (intro _; go_simp; try exact hwr)); simp only [Act.put, List.setIfInBounds_toArray, List.set_cons_zero, List.set_cons_succ]) | (refine Txt.tl_pure (v := ?_) (by rfl) ?_ ?_; rotate_left; (focus (intro _; go_simp; try with_reducible rfl)); simp only [Act.put, List.setIfInBounds_toArray, List.set_cons_zero, List.set_cons_succ]) | (refine Txt.tl_skip (by rfl) trivial ?_; simp only [Act.put, List.setIfInBounds_toArray, List.set_cons_zero, List.set_cons_succ]) | (refine Txt.tl_load (v := ?_) (by rfl) (by rfl) (by rfl) (by kernel_rfl) ?_ ?_; rotate_left; (focus assumption); simp only [Act.put, List.setIfInBounds_toArray, List.set_cons_zero, List.set_cons_succ]) | (refine Txt.tl_rowN (n := 34) (ty := 65) (by rfl) (by rfl) (by rfl) RY.out (by kernel_rfl) (we_len _) ?_; simp only [Act.put, List.setIfInBounds_toArray, List.set_cons_zero, List.set_cons_succ]) | (refine Txt.tl_rowN (n := 34) (ty := 65) (by rfl) (by rfl) (by rfl) RX.out (by kernel_rfl) (we_len _) ?_; simp only [Act.put, List.setIfInBounds_toArray, List.set_cons_zero, List.set_cons_succ]) | (refine Txt.tl_rowN (n := 32) (ty := 38) (by rfl) (by rfl) (by rfl) RU.out (by kernel_rfl) (by rw [List.length_map]; exact HU.out) ?_; simp only [Act.put, List.setIfInBounds_toArray, List.set_cons_zero, List.set_cons_succ])))
                              refine Txt.tl_call Tryz.func26 (by kernel_rfl) (by kernel_rfl) (by rfl) (by rfl) (by rfl) (xhas_any _ ga g gc G (Sq.own_idat (c := gc) (HM.out.get 3 rfl)) (by omega) x.u x.hu) ?_
                              rintro e w8 ⟨rfl, k8⟩
                              have HM : Hid _ := HM.out.calm k8
                              clear k8
                              refine ⟨_, rfl, trivial, ?_⟩
                              simp only [Act.put, List.setIfInBounds_toArray, List.set_cons_zero, List.set_cons_succ]
                              rw [decide_eq_false hm]
                              clear hm
                              (repeat (first | ((with_reducible refine at_dt 148 ?_); refine Txt.tl_pure (v := .int .i64 ((i - 1 : Nat) : Int)) (by rfl) ?_ ?_; (focus (intro _; go_simp; try exact hwr)); simp only [Act.put, List.setIfInBounds_toArray, List.set_cons_zero, List.set_cons_succ]) | (refine Txt.tl_pure (v := ?_) (by rfl) ?_ ?_; rotate_left; (focus (intro _; go_simp; try with_reducible rfl)); simp only [Act.put, List.setIfInBounds_toArray, List.set_cons_zero, List.set_cons_succ]) | (refine Txt.tl_skip (by rfl) trivial ?_; simp only [Act.put, List.setIfInBounds_toArray, List.set_cons_zero, List.set_cons_succ]) | (refine Txt.tl_load (v := ?_) (by rfl) (by rfl) (by rfl) (by kernel_rfl) ?_ ?_; rotate_left; (focus assumption); simp only [Act.put, List.setIfInBounds_toArray, List.set_cons_zero, List.set_cons_succ]) | (refine Txt.tl_rowN (n := 34) (ty := 65) (by rfl) (by rfl) (by rfl) RY.out (by kernel_rfl) (we_len _) ?_; simp only [Act.put, List.setIfInBounds_toArray, List.set_cons_zero, List.set_cons_succ]) | (refine Txt.tl_rowN (n := 34) (ty := 65) (by rfl) (by rfl) (by rfl) RX.out (by kernel_rfl) (we_len _) ?_; simp only [Act.put, List.setIfInBounds_toArray, List.set_cons_zero, List.set_cons_succ]) | (refine Txt.tl_rowN (n := 32) (ty := 38) (by rfl) (by rfl) (by rfl) RU.out (by kernel_rfl) (by rw [List.length_map]; exact HU.out) ?_; simp only [Act.put, List.setIfInBounds_toArray, List.set_cons_zero, List.set_cons_succ])))
                              refine Txt.tl_nil ?_
                              clear c0 c1 RX RU RY
                              go_wp2
                              go_roundw
                              case rel => exact ⟨i + 1, ok, by omega, by go_num, rfl, HM.out, HF.out⟩
                              case measure => simp [intOf]; omega
                          · have HLs : Hid (∀ w, Calls Tryz.prog 25 #[wv y, wv x] w fun e w' => e = .returned (.bool false) ∧ Keep (fun _ => False) w w') := fun w => (rowless_any w y x).mono fun e w' ⟨⟨r, he, hr⟩, hk⟩ => ⟨by rw [he]; cases r; rfl; exact absurd (hr.1 rfl) hyx, hk⟩
                            have HF : Hid (false = true ↔ FI s L G a4 (i + 1)) := ⟨fun h => (by cases h), fun h => by
                              rcases (HSt.out.1 h).2.1 with h1 | ⟨z, h1, h2⟩
                              · exact absurd h1 h0
                              · rw [hy] at h1
                                rw [← Option.some.inj h1] at h2
                                exact absurd h2 hyx⟩
                            clear hyx hy
                            go_wp2
                            have HM : Hid _ := HM.out.drew
                            have c0 := HM.out.cell 1 rfl 0 (v := .slice (some ⟨g0, o0, none⟩) q lc) rfl
                            have c1 := HM.out.cell 1 rfl 1 (v := .slice ga g gc) rfl
                            have RX : Hid (World.rangeAt _ g0 (o0 + i * 34) (we x)) := ((own_sl (show St.Own 65 34 we _ (.slice (some ⟨g0, o0, none⟩) q lc) L from HM.out.get 2 rfl)).2.lay.resolve_left (by omega) |> fun ⟨_, _, e, _, hr⟩ => (by cases e; exact hr i x Hd.out))
                            have RU : Hid _ := rng_wu RX.out
                            have RY : Hid _ := RX.out
                            try (have RY : Hid (World.rangeAt _ g0 (o0 + (i - 1) * 34) (we y)) := ((own_sl (show St.Own 65 34 we _ (.slice (some ⟨g0, o0, none⟩) q lc) L from HM.out.get 2 rfl)).2.lay.resolve_left (by omega) |> fun ⟨_, _, e, _, hr⟩ => (by cases e; exact hr (i - 1) y Hy.out)))
                            refine Txt.wp_region_text (fun _ => True) [0, 0, 0, 0, 0, 0, 1, 0, 0, 0, 1, 0, 0, 0, 1, 0, 0, 1, 4, 0, 0, 0, 0, 0, 0, 1, 0, 0, 0, 1, 0, 0, 0, 1, 4, 0] (by kernel_rfl) (by kernel_rfl) trivial ?_
                            (repeat (first | ((with_reducible refine at_dt 148 ?_); refine Txt.tl_pure (v := .int .i64 ((i - 1 : Nat) : Int)) (by rfl) ?_ ?_; (focus (intro _; go_simp; try exact hwr)); simp only [Act.put, List.setIfInBounds_toArray, List.set_cons_zero, List.set_cons_succ]) | (refine Txt.tl_pure (v := ?_) (by rfl) ?_ ?_; rotate_left; (focus (intro _; go_simp; try with_reducible rfl)); simp only [Act.put, List.setIfInBounds_toArray, List.set_cons_zero, List.set_cons_succ]) | (refine Txt.tl_skip (by rfl) trivial ?_; simp only [Act.put, List.setIfInBounds_toArray, List.set_cons_zero, List.set_cons_succ]) | (refine Txt.tl_load (v := ?_) (by rfl) (by rfl) (by rfl) (by kernel_rfl) ?_ ?_; rotate_left; (focus assumption); simp only [Act.put, List.setIfInBounds_toArray, List.set_cons_zero, List.set_cons_succ]) | (refine Txt.tl_rowN (n := 34) (ty := 65) (by rfl) (by rfl) (by rfl) RY.out (by kernel_rfl) (we_len _) ?_; simp only [Act.put, List.setIfInBounds_toArray, List.set_cons_zero, List.set_cons_succ]) | (refine Txt.tl_rowN (n := 34) (ty := 65) (by rfl) (by rfl) (by rfl) RX.out (by kernel_rfl) (we_len _) ?_; simp only [Act.put, List.setIfInBounds_toArray, List.set_cons_zero, List.set_cons_succ]) | (refine Txt.tl_rowN (n := 32) (ty := 38) (by rfl) (by rfl) (by rfl) RU.out (by kernel_rfl) (by rw [List.length_map]; exact HU.out) ?_; simp only [Act.put, List.setIfInBounds_toArray, List.set_cons_zero, List.set_cons_succ])))
                            refine Txt.tl_call Tryz.func25 (by kernel_rfl) (by kernel_rfl) (by rfl) (by rfl) (by rfl) (HLs.out _) ?_
                            rintro e w7 ⟨rfl, k7⟩
                            have HM : Hid _ := HM.out.calm k7
                            clear k7 RX RU RY c0 c1
                            have c0 := HM.out.cell 1 rfl 0 (v := .slice (some ⟨g0, o0, none⟩) q lc) rfl
                            have c1 := HM.out.cell 1 rfl 1 (v := .slice ga g gc) rfl
                            have RX : Hid (World.rangeAt _ g0 (o0 + i * 34) (we x)) := ((own_sl (show St.Own 65 34 we _ (.slice (some ⟨g0, o0, none⟩) q lc) L from HM.out.get 2 rfl)).2.lay.resolve_left (by omega) |> fun ⟨_, _, e, _, hr⟩ => (by cases e; exact hr i x Hd.out))
                            have RU : Hid _ := rng_wu RX.out
                            have RY : Hid _ := RX.out
                            refine ⟨_, rfl, trivial, ?_⟩
                            simp only [Act.put, List.setIfInBounds_toArray, List.set_cons_zero, List.set_cons_succ]
                            (repeat (first | ((with_reducible refine at_dt 148 ?_); refine Txt.tl_pure (v := .int .i64 ((i - 1 : Nat) : Int)) (by rfl) ?_ ?_; (focus (intro _; go_simp; try exact hwr)); simp only [Act.put, List.setIfInBounds_toArray, List.set_cons_zero, List.set_cons_succ]) | (refine Txt.tl_pure (v := ?_) (by rfl) ?_ ?_; rotate_left; (focus (intro _; go_simp; try with_reducible rfl)); simp only [Act.put, List.setIfInBounds_toArray, List.set_cons_zero, List.set_cons_succ]) | (refine Txt.tl_skip (by rfl) trivial ?_; simp only [Act.put, List.setIfInBounds_toArray, List.set_cons_zero, List.set_cons_succ]) | (refine Txt.tl_load (v := ?_) (by rfl) (by rfl) (by rfl) (by kernel_rfl) ?_ ?_; rotate_left; (focus assumption); simp only [Act.put, List.setIfInBounds_toArray, List.set_cons_zero, List.set_cons_succ]) | (refine Txt.tl_rowN (n := 34) (ty := 65) (by rfl) (by rfl) (by rfl) RY.out (by kernel_rfl) (we_len _) ?_; simp only [Act.put, List.setIfInBounds_toArray, List.set_cons_zero, List.set_cons_succ]) | (refine Txt.tl_rowN (n := 34) (ty := 65) (by rfl) (by rfl) (by rfl) RX.out (by kernel_rfl) (we_len _) ?_; simp only [Act.put, List.setIfInBounds_toArray, List.set_cons_zero, List.set_cons_succ]) | (refine Txt.tl_rowN (n := 32) (ty := 38) (by rfl) (by rfl) (by rfl) RU.out (by kernel_rfl) (by rw [List.length_map]; exact HU.out) ?_; simp only [Act.put, List.setIfInBounds_toArray, List.set_cons_zero, List.set_cons_succ])))
                            (repeat (first | ((with_reducible refine at_dt 148 ?_); refine Txt.tl_pure (v := .int .i64 ((i - 1 : Nat) : Int)) (by rfl) ?_ ?_; (focus (intro _; go_simp; try exact hwr)); simp only [Act.put, List.setIfInBounds_toArray, List.set_cons_zero, List.set_cons_succ]) | (refine Txt.tl_pure (v := ?_) (by rfl) ?_ ?_; rotate_left; (focus (intro _; go_simp; try with_reducible rfl)); simp only [Act.put, List.setIfInBounds_toArray, List.set_cons_zero, List.set_cons_succ]) | (refine Txt.tl_skip (by rfl) trivial ?_; simp only [Act.put, List.setIfInBounds_toArray, List.set_cons_zero, List.set_cons_succ]) | (refine Txt.tl_load (v := ?_) (by rfl) (by rfl) (by rfl) (by kernel_rfl) ?_ ?_; rotate_left; (focus assumption); simp only [Act.put, List.setIfInBounds_toArray, List.set_cons_zero, List.set_cons_succ]) | (refine Txt.tl_rowN (n := 34) (ty := 65) (by rfl) (by rfl) (by rfl) RY.out (by kernel_rfl) (we_len _) ?_; simp only [Act.put, List.setIfInBounds_toArray, List.set_cons_zero, List.set_cons_succ]) | (refine Txt.tl_rowN (n := 34) (ty := 65) (by rfl) (by rfl) (by rfl) RX.out (by kernel_rfl) (we_len _) ?_; simp only [Act.put, List.setIfInBounds_toArray, List.set_cons_zero, List.set_cons_succ]) | (refine Txt.tl_rowN (n := 32) (ty := 38) (by rfl) (by rfl) (by rfl) RU.out (by kernel_rfl) (by rw [List.length_map]; exact HU.out) ?_; simp only [Act.put, List.setIfInBounds_toArray, List.set_cons_zero, List.set_cons_succ])))
                            refine Txt.tl_nil ?_
                            clear c0 c1 RX RU RY
                            go_wp2
                            go_roundw
                            case rel => exact ⟨i + 1, false, by omega, by go_num, rfl, HM.out, HF.out⟩
                            case measure => simp [intOf]; omega
                      · obtain rfl : q = i := by omega
                        have HTk2 : Hid (L.take q = L) := List.take_of_length_le (by rw [Hq.out]; exact Nat.le_refl _)
                        have HFn : Hid (FI s L G a4 q ↔ FineW s L G a4) := by
                          show _ ↔ _
                          unfold FI FineW
                          rw [HTk2.out]
                          exact ⟨fun h => ⟨h.1, h.2.2.1, h.2.1, h.2.2.2⟩, fun h => ⟨h.1, h.2.2.1, h.2.1, h.2.2.2⟩⟩
                        cases ok with
                        | false =>
                          go_wp2
                          go_ret2
                          exact ⟨L, G, a4, 0, 4, _, rfl, HRA.out, .inr ⟨rfl, .inr ⟨HCa.out, .inr ⟨rfl, fun hf => by have := HOk.out.2 (HFn.out.2 hf); cases this⟩⟩⟩, HM.out.keep, fun _ => rfl, fun h => (by cases h)⟩
                        | true =>
                          have HFi : Hid (FineW s L G a4) := HFn.out.1 (HOk.out.1 rfl)
                          go_wp2
                          go_ret2
                          exact ⟨L, G, a4, 0, 0, _, rfl, HRA.out, .inr ⟨rfl, .inr ⟨HCa.out, .inl ⟨rfl, HFi.out⟩⟩⟩, HM.out.keep, fun h => absurd rfl h, fun _ => ⟨bx, _, _, rfl, packX HM.out⟩⟩
                  · have Hev : Hid (endv s a4 0 = 4) := he
                    have HOk : Hid (false = true ↔ FI s L G a4 0) := ⟨fun h => (by cases h), fun h => (by have := h.1; rw [he] at this; cases this)⟩
                    clear he
                    go_wp2_with (first | (go_at_call 23; refine (M.xend HM.out 0 rfl Hev.out).mono ?_; rintro e w7 ⟨rfl, h7⟩; replace h7 := h7.symm; subst h7))
                    clear c0 c1
                    go_loopw [13, 12] (fun s13 s12 wr => ∃ (i : Nat) (ok : Bool), i ≤ q ∧ s13 = .int .i64 i ∧ s12 = .bool ok ∧ M (fun _ => False) w wr [xr rb s a4 0, blk bx (mxc (.slice la q lc) (.slice ga g gc)), rX (.slice la q lc) L, ids (.slice ga g gc) G] ∧ (ok = true ↔ FI s L G a4 i)) (fun s13 _ _ => q - (intOf s13).toNat)
                    case atStart => exact ⟨0, false, Nat.zero_le _, by go_num, rfl, HM.out, HOk.out⟩
                    case round =>
                      clear HM HOk
                      obtain ⟨i, ok, hi4, rfl, rfl, hM, hok⟩ := hrel
                      have HM : Hid (M (fun _ => False) w wr [xr rb s a4 0, blk bx (mxc (.slice la q lc) (.slice ga g gc)), rX (.slice la q lc) L, ids (.slice ga g gc) G]) := hM
                      have HOk : Hid (ok = true ↔ FI s L G a4 i) := hok
                      clear hM hok
                      have c0 := HM.out.cell 1 rfl 0 (v := .slice la q lc) rfl
                      by_cases hlt4 : i < q
                      · obtain ⟨x, hd⟩ : ∃ d, L[i]? = some d := ⟨_, List.getElem?_eq_getElem (by rw [Hq.out]; exact hlt4)⟩
                        have Hd : Hid (L[i]? = some x) := hd
                        have HU : Hid (x.u.length = 32) := x.hu
                        have HSt : Hid _ := FI_step (s := s) (G := G) (a := a4) hd
                        obtain ⟨g0, o0, e0, _, _⟩ := (own_sl (show St.Own 65 34 we wr (.slice la q lc) L from HM.out.get 2 rfl)).2.lay.resolve_left (by omega)
                        subst e0
                        clear hd
                        by_cases h0 : i = 0
                        · subst h0
                          by_cases hm : x.u ∈ G
                          · have HF : Hid (false = true ↔ FI s L G a4 (0 + 1)) := ⟨fun h => (by cases h), fun h => absurd hm (HSt.out.1 h).2.2⟩
                            go_wp2
                            have HM : Hid _ := HM.out.drew
                            have c0 := HM.out.cell 1 rfl 0 (v := .slice (some ⟨g0, o0, none⟩) q lc) rfl
                            have c1 := HM.out.cell 1 rfl 1 (v := .slice ga g gc) rfl
                            have RX : Hid (World.rangeAt _ g0 (o0 + 0 * 34) (we x)) := ((own_sl (show St.Own 65 34 we _ (.slice (some ⟨g0, o0, none⟩) q lc) L from HM.out.get 2 rfl)).2.lay.resolve_left (by omega) |> fun ⟨_, _, e, _, hr⟩ => (by cases e; exact hr 0 x Hd.out))
                            have RU : Hid _ := rng_wu RX.out
                            have RY : Hid _ := RX.out
                            try (have RY : Hid (World.rangeAt _ g0 (o0 + (i - 1) * 34) (we y)) := ((own_sl (show St.Own 65 34 we _ (.slice (some ⟨g0, o0, none⟩) q lc) L from HM.out.get 2 rfl)).2.lay.resolve_left (by omega) |> fun ⟨_, _, e, _, hr⟩ => (by cases e; exact hr (i - 1) y Hy.out)))
                            refine Txt.wp_region_text (fun _ => True) [0, 0, 0, 0, 0, 0, 1, 0, 0, 0, 1, 0, 0, 0, 1, 0, 0, 1, 4, 0, 0, 0, 0, 0, 0, 1, 0, 0, 0, 1, 0, 0, 0, 1, 4, 0] (by kernel_rfl) (by kernel_rfl) trivial ?_
                            (repeat (first | ((with_reducible refine at_dt 148 ?_); refine Txt.tl_pure (v := .int .i64 ((i - 1 : Nat) : Int)) (by rfl) ?_ ?_; (focus (intro _; go_simp; try exact hwr)); simp only [Act.put, List.setIfInBounds_toArray, List.set_cons_zero, List.set_cons_succ]) | (refine Txt.tl_pure (v := ?_) (by rfl) ?_ ?_; rotate_left; (focus (intro _; go_simp; try with_reducible rfl)); simp only [Act.put, List.setIfInBounds_toArray, List.set_cons_zero, List.set_cons_succ]) | (refine Txt.tl_skip (by rfl) trivial ?_; simp only [Act.put, List.setIfInBounds_toArray, List.set_cons_zero, List.set_cons_succ]) | (refine Txt.tl_load (v := ?_) (by rfl) (by rfl) (by rfl) (by kernel_rfl) ?_ ?_; rotate_left; (focus assumption); simp only [Act.put, List.setIfInBounds_toArray, List.set_cons_zero, List.set_cons_succ]) | (refine Txt.tl_rowN (n := 34) (ty := 65) (by rfl) (by rfl) (by rfl) RY.out (by kernel_rfl) (we_len _) ?_; simp only [Act.put, List.setIfInBounds_toArray, List.set_cons_zero, List.set_cons_succ]) | (refine Txt.tl_rowN (n := 34) (ty := 65) (by rfl) (by rfl) (by rfl) RX.out (by kernel_rfl) (we_len _) ?_; simp only [Act.put, List.setIfInBounds_toArray, List.set_cons_zero, List.set_cons_succ]) | (refine Txt.tl_rowN (n := 32) (ty := 38) (by rfl) (by rfl) (by rfl) RU.out (by kernel_rfl) (by rw [List.length_map]; exact HU.out) ?_; simp only [Act.put, List.setIfInBounds_toArray, List.set_cons_zero, List.set_cons_succ])))
                            refine Txt.tl_call Tryz.func26 (by kernel_rfl) (by kernel_rfl) (by rfl) (by rfl) (by rfl) (xhas_any _ ga g gc G (Sq.own_idat (c := gc) (HM.out.get 3 rfl)) (by omega) x.u x.hu) ?_
                            rintro e w8 ⟨rfl, k8⟩
                            have HM : Hid _ := HM.out.calm k8
                            clear k8
                            refine ⟨_, rfl, trivial, ?_⟩
                            simp only [Act.put, List.setIfInBounds_toArray, List.set_cons_zero, List.set_cons_succ]
                            rw [decide_eq_true hm]
                            clear hm
                            (repeat (first | ((with_reducible refine at_dt 148 ?_); refine Txt.tl_pure (v := .int .i64 ((i - 1 : Nat) : Int)) (by rfl) ?_ ?_; (focus (intro _; go_simp; try exact hwr)); simp only [Act.put, List.setIfInBounds_toArray, List.set_cons_zero, List.set_cons_succ]) | (refine Txt.tl_pure (v := ?_) (by rfl) ?_ ?_; rotate_left; (focus (intro _; go_simp; try with_reducible rfl)); simp only [Act.put, List.setIfInBounds_toArray, List.set_cons_zero, List.set_cons_succ]) | (refine Txt.tl_skip (by rfl) trivial ?_; simp only [Act.put, List.setIfInBounds_toArray, List.set_cons_zero, List.set_cons_succ]) | (refine Txt.tl_load (v := ?_) (by rfl) (by rfl) (by rfl) (by kernel_rfl) ?_ ?_; rotate_left; (focus assumption); simp only [Act.put, List.setIfInBounds_toArray, List.set_cons_zero, List.set_cons_succ]) | (refine Txt.tl_rowN (n := 34) (ty := 65) (by rfl) (by rfl) (by rfl) RY.out (by kernel_rfl) (we_len _) ?_; simp only [Act.put, List.setIfInBounds_toArray, List.set_cons_zero, List.set_cons_succ]) | (refine Txt.tl_rowN (n := 34) (ty := 65) (by rfl) (by rfl) (by rfl) RX.out (by kernel_rfl) (we_len _) ?_; simp only [Act.put, List.setIfInBounds_toArray, List.set_cons_zero, List.set_cons_succ]) | (refine Txt.tl_rowN (n := 32) (ty := 38) (by rfl) (by rfl) (by rfl) RU.out (by kernel_rfl) (by rw [List.length_map]; exact HU.out) ?_; simp only [Act.put, List.setIfInBounds_toArray, List.set_cons_zero, List.set_cons_succ])))
                            refine Txt.tl_nil ?_
                            clear c0 c1 RX RU RY
                            go_wp2
                            go_roundw
                            case rel => exact ⟨0 + 1, false, by omega, by go_num, rfl, HM.out, HF.out⟩
                            case measure => simp [intOf]; omega
                          · have HF : Hid (ok = true ↔ FI s L G a4 (0 + 1)) := by rw [HOk.out, HSt.out]; exact ⟨fun h => ⟨h, .inl rfl, hm⟩, fun h => h.1⟩
                            go_wp2
                            have HM : Hid _ := HM.out.drew
                            have c0 := HM.out.cell 1 rfl 0 (v := .slice (some ⟨g0, o0, none⟩) q lc) rfl
                            have c1 := HM.out.cell 1 rfl 1 (v := .slice ga g gc) rfl
                            have RX : Hid (World.rangeAt _ g0 (o0 + 0 * 34) (we x)) := ((own_sl (show St.Own 65 34 we _ (.slice (some ⟨g0, o0, none⟩) q lc) L from HM.out.get 2 rfl)).2.lay.resolve_left (by omega) |> fun ⟨_, _, e, _, hr⟩ => (by cases e; exact hr 0 x Hd.out))
                            have RU : Hid _ := rng_wu RX.out
                            have RY : Hid _ := RX.out
                            try (have RY : Hid (World.rangeAt _ g0 (o0 + (i - 1) * 34) (we y)) := ((own_sl (show St.Own 65 34 we _ (.slice (some ⟨g0, o0, none⟩) q lc) L from HM.out.get 2 rfl)).2.lay.resolve_left (by omega) |> fun ⟨_, _, e, _, hr⟩ => (by cases e; exact hr (i - 1) y Hy.out)))
                            refine Txt.wp_region_text (fun _ => True) [0, 0, 0, 0, 0, 0, 1, 0, 0, 0, 1, 0, 0, 0, 1, 0, 0, 1, 4, 0, 0, 0, 0, 0, 0, 1, 0, 0, 0, 1, 0, 0, 0, 1, 4, 0] (by kernel_rfl) (by kernel_rfl) trivial ?_
                            (repeat (first | ((with_reducible refine at_dt 148 ?_); refine Txt.tl_pure (v := .int .i64 ((i - 1 : Nat) : Int)) (by rfl) ?_ ?_; (focus (intro _; go_simp; try exact hwr)); simp only [Act.put, List.setIfInBounds_toArray, List.set_cons_zero, List.set_cons_succ]) | (refine Txt.tl_pure (v := ?_) (by rfl) ?_ ?_; rotate_left; (focus (intro _; go_simp; try with_reducible rfl)); simp only [Act.put, List.setIfInBounds_toArray, List.set_cons_zero, List.set_cons_succ]) | (refine Txt.tl_skip (by rfl) trivial ?_; simp only [Act.put, List.setIfInBounds_toArray, List.set_cons_zero, List.set_cons_succ]) | (refine Txt.tl_load (v := ?_) (by rfl) (by rfl) (by rfl) (by kernel_rfl) ?_ ?_; rotate_left; (focus assumption); simp only [Act.put, List.setIfInBounds_toArray, List.set_cons_zero, List.set_cons_succ]) | (refine Txt.tl_rowN (n := 34) (ty := 65) (by rfl) (by rfl) (by rfl) RY.out (by kernel_rfl) (we_len _) ?_; simp only [Act.put, List.setIfInBounds_toArray, List.set_cons_zero, List.set_cons_succ]) | (refine Txt.tl_rowN (n := 34) (ty := 65) (by rfl) (by rfl) (by rfl) RX.out (by kernel_rfl) (we_len _) ?_; simp only [Act.put, List.setIfInBounds_toArray, List.set_cons_zero, List.set_cons_succ]) | (refine Txt.tl_rowN (n := 32) (ty := 38) (by rfl) (by rfl) (by rfl) RU.out (by kernel_rfl) (by rw [List.length_map]; exact HU.out) ?_; simp only [Act.put, List.setIfInBounds_toArray, List.set_cons_zero, List.set_cons_succ])))
                            refine Txt.tl_call Tryz.func26 (by kernel_rfl) (by kernel_rfl) (by rfl) (by rfl) (by rfl) (xhas_any _ ga g gc G (Sq.own_idat (c := gc) (HM.out.get 3 rfl)) (by omega) x.u x.hu) ?_
                            rintro e w8 ⟨rfl, k8⟩
                            have HM : Hid _ := HM.out.calm k8
                            clear k8
                            refine ⟨_, rfl, trivial, ?_⟩
                            simp only [Act.put, List.setIfInBounds_toArray, List.set_cons_zero, List.set_cons_succ]
                            rw [decide_eq_false hm]
                            clear hm
                            (repeat (first | ((with_reducible refine at_dt 148 ?_); refine Txt.tl_pure (v := .int .i64 ((i - 1 : Nat) : Int)) (by rfl) ?_ ?_; (focus (intro _; go_simp; try exact hwr)); simp only [Act.put, List.setIfInBounds_toArray, List.set_cons_zero, List.set_cons_succ]) | (refine Txt.tl_pure (v := ?_) (by rfl) ?_ ?_; rotate_left; (focus (intro _; go_simp; try with_reducible rfl)); simp only [Act.put, List.setIfInBounds_toArray, List.set_cons_zero, List.set_cons_succ]) | (refine Txt.tl_skip (by rfl) trivial ?_; simp only [Act.put, List.setIfInBounds_toArray, List.set_cons_zero, List.set_cons_succ]) | (refine Txt.tl_load (v := ?_) (by rfl) (by rfl) (by rfl) (by kernel_rfl) ?_ ?_; rotate_left; (focus assumption); simp only [Act.put, List.setIfInBounds_toArray, List.set_cons_zero, List.set_cons_succ]) | (refine Txt.tl_rowN (n := 34) (ty := 65) (by rfl) (by rfl) (by rfl) RY.out (by kernel_rfl) (we_len _) ?_; simp only [Act.put, List.setIfInBounds_toArray, List.set_cons_zero, List.set_cons_succ]) | (refine Txt.tl_rowN (n := 34) (ty := 65) (by rfl) (by rfl) (by rfl) RX.out (by kernel_rfl) (we_len _) ?_; simp only [Act.put, List.setIfInBounds_toArray, List.set_cons_zero, List.set_cons_succ]) | (refine Txt.tl_rowN (n := 32) (ty := 38) (by rfl) (by rfl) (by rfl) RU.out (by kernel_rfl) (by rw [List.length_map]; exact HU.out) ?_; simp only [Act.put, List.setIfInBounds_toArray, List.set_cons_zero, List.set_cons_succ])))
                            refine Txt.tl_nil ?_
                            clear c0 c1 RX RU RY
                            go_wp2
                            go_roundw
                            case rel => exact ⟨0 + 1, ok, by omega, by go_num, rfl, HM.out, HF.out⟩
                            case measure => simp [intOf]; omega
                        · obtain ⟨y, hy⟩ : ∃ y, L[i - 1]? = some y := ⟨_, List.getElem?_eq_getElem (by rw [Hq.out]; omega)⟩
                          have Hy : Hid (L[i - 1]? = some y) := hy
                          have hi0 : 0 < i := by omega
                          have hi1 : (0 : Int) < (i : Int) := by omega
                          have hwr : IntKind.i64.wrap ((i : Int) - 1) = ((i - 1 : Nat) : Int) := by rw [IntKind.wrap_i64]; omega
                          have hiq : i - 1 < q := by omega
                          by_cases hyx : ltW y x
                          · have HLs : Hid (∀ w, Calls Tryz.prog 25 #[wv y, wv x] w fun e w' => e = .returned (.bool true) ∧ Keep (fun _ => False) w w') := fun w => (rowless_any w y x).mono fun e w' ⟨⟨r, he, hr⟩, hk⟩ => ⟨by rw [he, hr.2 hyx], hk⟩
                            by_cases hm : x.u ∈ G
                            · have HF : Hid (false = true ↔ FI s L G a4 (i + 1)) := ⟨fun h => (by cases h), fun h => absurd hm (HSt.out.1 h).2.2⟩
                              clear hyx hy
                              go_wp2
                              have HM : Hid _ := HM.out.drew
                              have c0 := HM.out.cell 1 rfl 0 (v := .slice (some ⟨g0, o0, none⟩) q lc) rfl
                              have c1 := HM.out.cell 1 rfl 1 (v := .slice ga g gc) rfl
                              have RX : Hid (World.rangeAt _ g0 (o0 + i * 34) (we x)) := ((own_sl (show St.Own 65 34 we _ (.slice (some ⟨g0, o0, none⟩) q lc) L from HM.out.get 2 rfl)).2.lay.resolve_left (by omega) |> fun ⟨_, _, e, _, hr⟩ => (by cases e; exact hr i x Hd.out))
                              have RU : Hid _ := rng_wu RX.out
                              have RY : Hid _ := RX.out
                              try (have RY : Hid (World.rangeAt _ g0 (o0 + (i - 1) * 34) (we y)) := ((own_sl (show St.Own 65 34 we _ (.slice (some ⟨g0, o0, none⟩) q lc) L from HM.out.get 2 rfl)).2.lay.resolve_left (by omega) |> fun ⟨_, _, e, _, hr⟩ => (by cases e; exact hr (i - 1) y Hy.out)))
                              refine Txt.wp_region_text (fun _ => True) [0, 0, 0, 0, 0, 0, 1, 0, 0, 0, 1, 0, 0, 0, 1, 0, 0, 1, 4, 0, 0, 0, 0, 0, 0, 1, 0, 0, 0, 1, 0, 0, 0, 1, 4, 0] (by kernel_rfl) (by kernel_rfl) trivial ?_
                              (repeat (first | ((with_reducible refine at_dt 148 ?_); refine Txt.tl_pure (v := .int .i64 ((i - 1 : Nat) : Int)) (by rfl) ?_ ?_; (focus (intro _; go_simp; try exact hwr)); simp only [Act.put, List.setIfInBounds_toArray, List.set_cons_zero, List.set_cons_succ]) | (refine Txt.tl_pure (v := ?_) (by rfl) ?_ ?_; rotate_left; (focus (intro _; go_simp; try with_reducible rfl)); simp only [Act.put, List.setIfInBounds_toArray, List.set_cons_zero, List.set_cons_succ]) | (refine Txt.tl_skip (by rfl) trivial ?_; simp only [Act.put, List.setIfInBounds_toArray, List.set_cons_zero, List.set_cons_succ]) | (refine Txt.tl_load (v := ?_) (by rfl) (by rfl) (by rfl) (by kernel_rfl) ?_ ?_; rotate_left; (focus assumption); simp only [Act.put, List.setIfInBounds_toArray, List.set_cons_zero, List.set_cons_succ]) | (refine Txt.tl_rowN (n := 34) (ty := 65) (by rfl) (by rfl) (by rfl) RY.out (by kernel_rfl) (we_len _) ?_; simp only [Act.put, List.setIfInBounds_toArray, List.set_cons_zero, List.set_cons_succ]) | (refine Txt.tl_rowN (n := 34) (ty := 65) (by rfl) (by rfl) (by rfl) RX.out (by kernel_rfl) (we_len _) ?_; simp only [Act.put, List.setIfInBounds_toArray, List.set_cons_zero, List.set_cons_succ]) | (refine Txt.tl_rowN (n := 32) (ty := 38) (by rfl) (by rfl) (by rfl) RU.out (by kernel_rfl) (by rw [List.length_map]; exact HU.out) ?_; simp only [Act.put, List.setIfInBounds_toArray, List.set_cons_zero, List.set_cons_succ])))
                              refine Txt.tl_call Tryz.func25 (by kernel_rfl) (by kernel_rfl) (by rfl) (by rfl) (by rfl) (HLs.out _) ?_
                              rintro e w7 ⟨rfl, k7⟩
                              have HM : Hid _ := HM.out.calm k7
                              clear k7 RX RU RY c0 c1
                              have c0 := HM.out.cell 1 rfl 0 (v := .slice (some ⟨g0, o0, none⟩) q lc) rfl
                              have c1 := HM.out.cell 1 rfl 1 (v := .slice ga g gc) rfl
                              have RX : Hid (World.rangeAt _ g0 (o0 + i * 34) (we x)) := ((own_sl (show St.Own 65 34 we _ (.slice (some ⟨g0, o0, none⟩) q lc) L from HM.out.get 2 rfl)).2.lay.resolve_left (by omega) |> fun ⟨_, _, e, _, hr⟩ => (by cases e; exact hr i x Hd.out))
                              have RU : Hid _ := rng_wu RX.out
                              have RY : Hid _ := RX.out
                              refine ⟨_, rfl, trivial, ?_⟩
                              simp only [Act.put, List.setIfInBounds_toArray, List.set_cons_zero, List.set_cons_succ]
                              (repeat (first | ((with_reducible refine at_dt 148 ?_); refine Txt.tl_pure (v := .int .i64 ((i - 1 : Nat) : Int)) (by rfl) ?_ ?_; (focus (intro _; go_simp; try exact hwr)); simp only [Act.put, List.setIfInBounds_toArray, List.set_cons_zero, List.set_cons_succ]) | (refine Txt.tl_pure (v := ?_) (by rfl) ?_ ?_; rotate_left; (focus (intro _; go_simp; try with_reducible rfl)); simp only [Act.put, List.setIfInBounds_toArray, List.set_cons_zero, List.set_cons_succ]) | (refine Txt.tl_skip (by rfl) trivial ?_; simp only [Act.put, List.setIfInBounds_toArray, List.set_cons_zero, List.set_cons_succ]) | (refine Txt.tl_load (v := ?_) (by rfl) (by rfl) (by rfl) (by kernel_rfl) ?_ ?_; rotate_left; (focus assumption); simp only [Act.put, List.setIfInBounds_toArray, List.set_cons_zero, List.set_cons_succ]) | (refine Txt.tl_rowN (n := 34) (ty := 65) (by rfl) (by rfl) (by rfl) RY.out (by kernel_rfl) (we_len _) ?_; simp only [Act.put, List.setIfInBounds_toArray, List.set_cons_zero, List.set_cons_succ]) | (refine Txt.tl_rowN (n := 34) (ty := 65) (by rfl) (by rfl) (by rfl) RX.out (by kernel_rfl) (we_len _) ?_; simp only [Act.put, List.setIfInBounds_toArray, List.set_cons_zero, List.set_cons_succ]) | (refine Txt.tl_rowN (n := 32) (ty := 38) (by rfl) (by rfl) (by rfl) RU.out (by kernel_rfl) (by rw [List.length_map]; exact HU.out) ?_; simp only [Act.put, List.setIfInBounds_toArray, List.set_cons_zero, List.set_cons_succ])))
                              refine Txt.tl_call Tryz.func26 (by kernel_rfl) (by kernel_rfl) (by rfl) (by rfl) (by rfl) (xhas_any _ ga g gc G (Sq.own_idat (c := gc) (HM.out.get 3 rfl)) (by omega) x.u x.hu) ?_
                              rintro e w8 ⟨rfl, k8⟩
                              have HM : Hid _ := HM.out.calm k8
                              clear k8
                              refine ⟨_, rfl, trivial, ?_⟩
                              simp only [Act.put, List.setIfInBounds_toArray, List.set_cons_zero, List.set_cons_succ]
                              rw [decide_eq_true hm]
                              clear hm
                              (repeat (first | ((with_reducible refine at_dt 148 ?_); refine Txt.tl_pure (v := .int .i64 ((i - 1 : Nat) : Int)) (by rfl) ?_ ?_; (focus (intro _; go_simp; try exact hwr)); simp only [Act.put, List.setIfInBounds_toArray, List.set_cons_zero, List.set_cons_succ]) | (refine Txt.tl_pure (v := ?_) (by rfl) ?_ ?_; rotate_left; (focus (intro _; go_simp; try with_reducible rfl)); simp only [Act.put, List.setIfInBounds_toArray, List.set_cons_zero, List.set_cons_succ]) | (refine Txt.tl_skip (by rfl) trivial ?_; simp only [Act.put, List.setIfInBounds_toArray, List.set_cons_zero, List.set_cons_succ]) | (refine Txt.tl_load (v := ?_) (by rfl) (by rfl) (by rfl) (by kernel_rfl) ?_ ?_; rotate_left; (focus assumption); simp only [Act.put, List.setIfInBounds_toArray, List.set_cons_zero, List.set_cons_succ]) | (refine Txt.tl_rowN (n := 34) (ty := 65) (by rfl) (by rfl) (by rfl) RY.out (by kernel_rfl) (we_len _) ?_; simp only [Act.put, List.setIfInBounds_toArray, List.set_cons_zero, List.set_cons_succ]) | (refine Txt.tl_rowN (n := 34) (ty := 65) (by rfl) (by rfl) (by rfl) RX.out (by kernel_rfl) (we_len _) ?_; simp only [Act.put, List.setIfInBounds_toArray, List.set_cons_zero, List.set_cons_succ]) | (refine Txt.tl_rowN (n := 32) (ty := 38) (by rfl) (by rfl) (by rfl) RU.out (by kernel_rfl) (by rw [List.length_map]; exact HU.out) ?_; simp only [Act.put, List.setIfInBounds_toArray, List.set_cons_zero, List.set_cons_succ])))
                              refine Txt.tl_nil ?_
                              clear c0 c1 RX RU RY
                              go_wp2
                              go_roundw
                              case rel => exact ⟨i + 1, false, by omega, by go_num, rfl, HM.out, HF.out⟩
                              case measure => simp [intOf]; omega
                            · have HF : Hid (ok = true ↔ FI s L G a4 (i + 1)) := by rw [HOk.out, HSt.out]; exact ⟨fun h => ⟨h, .inr ⟨y, hy, hyx⟩, hm⟩, fun h => h.1⟩
                              clear hyx hy
                              go_wp2
                              have HM : Hid _ := HM.out.drew
                              have c0 := HM.out.cell 1 rfl 0 (v := .slice (some ⟨g0, o0, none⟩) q lc) rfl
                              have c1 := HM.out.cell 1 rfl 1 (v := .slice ga g gc) rfl
                              have RX : Hid (World.rangeAt _ g0 (o0 + i * 34) (we x)) := ((own_sl (show St.Own 65 34 we _ (.slice (some ⟨g0, o0, none⟩) q lc) L from HM.out.get 2 rfl)).2.lay.resolve_left (by omega) |> fun ⟨_, _, e, _, hr⟩ => (by cases e; exact hr i x Hd.out))
                              have RU : Hid _ := rng_wu RX.out
                              have RY : Hid _ := RX.out
                              try (have RY : Hid (World.rangeAt _ g0 (o0 + (i - 1) * 34) (we y)) := ((own_sl (show St.Own 65 34 we _ (.slice (some ⟨g0, o0, none⟩) q lc) L from HM.out.get 2 rfl)).2.lay.resolve_left (by omega) |> fun ⟨_, _, e, _, hr⟩ => (by cases e; exact hr (i - 1) y Hy.out)))
                              refine Txt.wp_region_text (fun _ => True) [0, 0, 0, 0, 0, 0, 1, 0, 0, 0, 1, 0, 0, 0, 1, 0, 0, 1, 4, 0, 0, 0, 0, 0, 0, 1, 0, 0, 0, 1, 0, 0, 0, 1, 4, 0] (by kernel_rfl) (by kernel_rfl) trivial ?_
                              (repeat (first | ((with_reducible refine at_dt 148 ?_); refine Txt.tl_pure (v := .int .i64 ((i - 1 : Nat) : Int)) (by rfl) ?_ ?_; (focus (intro _; go_simp; try exact hwr)); simp only [Act.put, List.setIfInBounds_toArray, List.set_cons_zero, List.set_cons_succ]) | (refine Txt.tl_pure (v := ?_) (by rfl) ?_ ?_; rotate_left; (focus (intro _; go_simp; try with_reducible rfl)); simp only [Act.put, List.setIfInBounds_toArray, List.set_cons_zero, List.set_cons_succ]) | (refine Txt.tl_skip (by rfl) trivial ?_; simp only [Act.put, List.setIfInBounds_toArray, List.set_cons_zero, List.set_cons_succ]) | (refine Txt.tl_load (v := ?_) (by rfl) (by rfl) (by rfl) (by kernel_rfl) ?_ ?_; rotate_left; (focus assumption); simp only [Act.put, List.setIfInBounds_toArray, List.set_cons_zero, List.set_cons_succ]) | (refine Txt.tl_rowN (n := 34) (ty := 65) (by rfl) (by rfl) (by rfl) RY.out (by kernel_rfl) (we_len _) ?_; simp only [Act.put, List.setIfInBounds_toArray, List.set_cons_zero, List.set_cons_succ]) | (refine Txt.tl_rowN (n := 34) (ty := 65) (by rfl) (by rfl) (by rfl) RX.out (by kernel_rfl) (we_len _) ?_; simp only [Act.put, List.setIfInBounds_toArray, List.set_cons_zero, List.set_cons_succ]) | (refine Txt.tl_rowN (n := 32) (ty := 38) (by rfl) (by rfl) (by rfl) RU.out (by kernel_rfl) (by rw [List.length_map]; exact HU.out) ?_; simp only [Act.put, List.setIfInBounds_toArray, List.set_cons_zero, List.set_cons_succ])))
                              refine Txt.tl_call Tryz.func25 (by kernel_rfl) (by kernel_rfl) (by rfl) (by rfl) (by rfl) (HLs.out _) ?_
                              rintro e w7 ⟨rfl, k7⟩
                              have HM : Hid _ := HM.out.calm k7
                              clear k7 RX RU RY c0 c1
                              have c0 := HM.out.cell 1 rfl 0 (v := .slice (some ⟨g0, o0, none⟩) q lc) rfl
                              have c1 := HM.out.cell 1 rfl 1 (v := .slice ga g gc) rfl
                              have RX : Hid (World.rangeAt _ g0 (o0 + i * 34) (we x)) := ((own_sl (show St.Own 65 34 we _ (.slice (some ⟨g0, o0, none⟩) q lc) L from HM.out.get 2 rfl)).2.lay.resolve_left (by omega) |> fun ⟨_, _, e, _, hr⟩ => (by cases e; exact hr i x Hd.out))
                              have RU : Hid _ := rng_wu RX.out
                              have RY : Hid _ := RX.out
                              refine ⟨_, rfl, trivial, ?_⟩
                              simp only [Act.put, List.setIfInBounds_toArray, List.set_cons_zero, List.set_cons_succ]
                              (repeat (first | ((with_reducible refine at_dt 148 ?_); refine Txt.tl_pure (v := .int .i64 ((i - 1 : Nat) : Int)) (by rfl) ?_ ?_; (focus (intro _; go_simp; try exact hwr)); simp only [Act.put, List.setIfInBounds_toArray, List.set_cons_zero, List.set_cons_succ]) | (refine Txt.tl_pure (v := ?_) (by rfl) ?_ ?_; rotate_left; (focus (intro _; go_simp; try with_reducible rfl)); simp only [Act.put, List.setIfInBounds_toArray, List.set_cons_zero, List.set_cons_succ]) | (refine Txt.tl_skip (by rfl) trivial ?_; simp only [Act.put, List.setIfInBounds_toArray, List.set_cons_zero, List.set_cons_succ]) | (refine Txt.tl_load (v := ?_) (by rfl) (by rfl) (by rfl) (by kernel_rfl) ?_ ?_; rotate_left; (focus assumption); simp only [Act.put, List.setIfInBounds_toArray, List.set_cons_zero, List.set_cons_succ]) | (refine Txt.tl_rowN (n := 34) (ty := 65) (by rfl) (by rfl) (by rfl) RY.out (by kernel_rfl) (we_len _) ?_; simp only [Act.put, List.setIfInBounds_toArray, List.set_cons_zero, List.set_cons_succ]) | (refine Txt.tl_rowN (n := 34) (ty := 65) (by rfl) (by rfl) (by rfl) RX.out (by kernel_rfl) (we_len _) ?_; simp only [Act.put, List.setIfInBounds_toArray, List.set_cons_zero, List.set_cons_succ]) | (refine Txt.tl_rowN (n := 32) (ty := 38) (by rfl) (by rfl) (by rfl) RU.out (by kernel_rfl) (by rw [List.length_map]; exact HU.out) ?_; simp only [Act.put, List.setIfInBounds_toArray, List.set_cons_zero, List.set_cons_succ])))
                              refine Txt.tl_call Tryz.func26 (by kernel_rfl) (by kernel_rfl) (by rfl) (by rfl) (by rfl) (xhas_any _ ga g gc G (Sq.own_idat (c := gc) (HM.out.get 3 rfl)) (by omega) x.u x.hu) ?_
                              rintro e w8 ⟨rfl, k8⟩
                              have HM : Hid _ := HM.out.calm k8
                              clear k8
                              refine ⟨_, rfl, trivial, ?_⟩
                              simp only [Act.put, List.setIfInBounds_toArray, List.set_cons_zero, List.set_cons_succ]
                              rw [decide_eq_false hm]
                              clear hm
                              (repeat (first | ((with_reducible refine at_dt 148 ?_); refine Txt.tl_pure (v := .int .i64 ((i - 1 : Nat) : Int)) (by rfl) ?_ ?_; (focus (intro _; go_simp; try exact hwr)); simp only [Act.put, List.setIfInBounds_toArray, List.set_cons_zero, List.set_cons_succ]) | (refine Txt.tl_pure (v := ?_) (by rfl) ?_ ?_; rotate_left; (focus (intro _; go_simp; try with_reducible rfl)); simp only [Act.put, List.setIfInBounds_toArray, List.set_cons_zero, List.set_cons_succ]) | (refine Txt.tl_skip (by rfl) trivial ?_; simp only [Act.put, List.setIfInBounds_toArray, List.set_cons_zero, List.set_cons_succ]) | (refine Txt.tl_load (v := ?_) (by rfl) (by rfl) (by rfl) (by kernel_rfl) ?_ ?_; rotate_left; (focus assumption); simp only [Act.put, List.setIfInBounds_toArray, List.set_cons_zero, List.set_cons_succ]) | (refine Txt.tl_rowN (n := 34) (ty := 65) (by rfl) (by rfl) (by rfl) RY.out (by kernel_rfl) (we_len _) ?_; simp only [Act.put, List.setIfInBounds_toArray, List.set_cons_zero, List.set_cons_succ]) | (refine Txt.tl_rowN (n := 34) (ty := 65) (by rfl) (by rfl) (by rfl) RX.out (by kernel_rfl) (we_len _) ?_; simp only [Act.put, List.setIfInBounds_toArray, List.set_cons_zero, List.set_cons_succ]) | (refine Txt.tl_rowN (n := 32) (ty := 38) (by rfl) (by rfl) (by rfl) RU.out (by kernel_rfl) (by rw [List.length_map]; exact HU.out) ?_; simp only [Act.put, List.setIfInBounds_toArray, List.set_cons_zero, List.set_cons_succ])))
                              refine Txt.tl_nil ?_
                              clear c0 c1 RX RU RY
                              go_wp2
                              go_roundw
                              case rel => exact ⟨i + 1, ok, by omega, by go_num, rfl, HM.out, HF.out⟩
                              case measure => simp [intOf]; omega
                          · have HLs : Hid (∀ w, Calls Tryz.prog 25 #[wv y, wv x] w fun e w' => e = .returned (.bool false) ∧ Keep (fun _ => False) w w') := fun w => (rowless_any w y x).mono fun e w' ⟨⟨r, he, hr⟩, hk⟩ => ⟨by rw [he]; cases r; rfl; exact absurd (hr.1 rfl) hyx, hk⟩
                            have HF : Hid (false = true ↔ FI s L G a4 (i + 1)) := ⟨fun h => (by cases h), fun h => by
                              rcases (HSt.out.1 h).2.1 with h1 | ⟨z, h1, h2⟩
                              · exact absurd h1 h0
                              · rw [hy] at h1
                                rw [← Option.some.inj h1] at h2
                                exact absurd h2 hyx⟩
                            clear hyx hy
                            go_wp2
                            have HM : Hid _ := HM.out.drew
                            have c0 := HM.out.cell 1 rfl 0 (v := .slice (some ⟨g0, o0, none⟩) q lc) rfl
                            have c1 := HM.out.cell 1 rfl 1 (v := .slice ga g gc) rfl
                            have RX : Hid (World.rangeAt _ g0 (o0 + i * 34) (we x)) := ((own_sl (show St.Own 65 34 we _ (.slice (some ⟨g0, o0, none⟩) q lc) L from HM.out.get 2 rfl)).2.lay.resolve_left (by omega) |> fun ⟨_, _, e, _, hr⟩ => (by cases e; exact hr i x Hd.out))
                            have RU : Hid _ := rng_wu RX.out
                            have RY : Hid _ := RX.out
                            try (have RY : Hid (World.rangeAt _ g0 (o0 + (i - 1) * 34) (we y)) := ((own_sl (show St.Own 65 34 we _ (.slice (some ⟨g0, o0, none⟩) q lc) L from HM.out.get 2 rfl)).2.lay.resolve_left (by omega) |> fun ⟨_, _, e, _, hr⟩ => (by cases e; exact hr (i - 1) y Hy.out)))
                            refine Txt.wp_region_text (fun _ => True) [0, 0, 0, 0, 0, 0, 1, 0, 0, 0, 1, 0, 0, 0, 1, 0, 0, 1, 4, 0, 0, 0, 0, 0, 0, 1, 0, 0, 0, 1, 0, 0, 0, 1, 4, 0] (by kernel_rfl) (by kernel_rfl) trivial ?_
                            (repeat (first | ((with_reducible refine at_dt 148 ?_); refine Txt.tl_pure (v := .int .i64 ((i - 1 : Nat) : Int)) (by rfl) ?_ ?_; (focus (intro _; go_simp; try exact hwr)); simp only [Act.put, List.setIfInBounds_toArray, List.set_cons_zero, List.set_cons_succ]) | (refine Txt.tl_pure (v := ?_) (by rfl) ?_ ?_; rotate_left; (focus (intro _; go_simp; try with_reducible rfl)); simp only [Act.put, List.setIfInBounds_toArray, List.set_cons_zero, List.set_cons_succ]) | (refine Txt.tl_skip (by rfl) trivial ?_; simp only [Act.put, List.setIfInBounds_toArray, List.set_cons_zero, List.set_cons_succ]) | (refine Txt.tl_load (v := ?_) (by rfl) (by rfl) (by rfl) (by kernel_rfl) ?_ ?_; rotate_left; (focus assumption); simp only [Act.put, List.setIfInBounds_toArray, List.set_cons_zero, List.set_cons_succ]) | (refine Txt.tl_rowN (n := 34) (ty := 65) (by rfl) (by rfl) (by rfl) RY.out (by kernel_rfl) (we_len _) ?_; simp only [Act.put, List.setIfInBounds_toArray, List.set_cons_zero, List.set_cons_succ]) | (refine Txt.tl_rowN (n := 34) (ty := 65) (by rfl) (by rfl) (by rfl) RX.out (by kernel_rfl) (we_len _) ?_; simp only [Act.put, List.setIfInBounds_toArray, List.set_cons_zero, List.set_cons_succ]) | (refine Txt.tl_rowN (n := 32) (ty := 38) (by rfl) (by rfl) (by rfl) RU.out (by kernel_rfl) (by rw [List.length_map]; exact HU.out) ?_; simp only [Act.put, List.setIfInBounds_toArray, List.set_cons_zero, List.set_cons_succ])))
                            refine Txt.tl_call Tryz.func25 (by kernel_rfl) (by kernel_rfl) (by rfl) (by rfl) (by rfl) (HLs.out _) ?_
                            rintro e w7 ⟨rfl, k7⟩
                            have HM : Hid _ := HM.out.calm k7
                            clear k7 RX RU RY c0 c1
                            have c0 := HM.out.cell 1 rfl 0 (v := .slice (some ⟨g0, o0, none⟩) q lc) rfl
                            have c1 := HM.out.cell 1 rfl 1 (v := .slice ga g gc) rfl
                            have RX : Hid (World.rangeAt _ g0 (o0 + i * 34) (we x)) := ((own_sl (show St.Own 65 34 we _ (.slice (some ⟨g0, o0, none⟩) q lc) L from HM.out.get 2 rfl)).2.lay.resolve_left (by omega) |> fun ⟨_, _, e, _, hr⟩ => (by cases e; exact hr i x Hd.out))
                            have RU : Hid _ := rng_wu RX.out
                            have RY : Hid _ := RX.out
                            refine ⟨_, rfl, trivial, ?_⟩
                            simp only [Act.put, List.setIfInBounds_toArray, List.set_cons_zero, List.set_cons_succ]
                            (repeat (first | ((with_reducible refine at_dt 148 ?_); refine Txt.tl_pure (v := .int .i64 ((i - 1 : Nat) : Int)) (by rfl) ?_ ?_; (focus (intro _; go_simp; try exact hwr)); simp only [Act.put, List.setIfInBounds_toArray, List.set_cons_zero, List.set_cons_succ]) | (refine Txt.tl_pure (v := ?_) (by rfl) ?_ ?_; rotate_left; (focus (intro _; go_simp; try with_reducible rfl)); simp only [Act.put, List.setIfInBounds_toArray, List.set_cons_zero, List.set_cons_succ]) | (refine Txt.tl_skip (by rfl) trivial ?_; simp only [Act.put, List.setIfInBounds_toArray, List.set_cons_zero, List.set_cons_succ]) | (refine Txt.tl_load (v := ?_) (by rfl) (by rfl) (by rfl) (by kernel_rfl) ?_ ?_; rotate_left; (focus assumption); simp only [Act.put, List.setIfInBounds_toArray, List.set_cons_zero, List.set_cons_succ]) | (refine Txt.tl_rowN (n := 34) (ty := 65) (by rfl) (by rfl) (by rfl) RY.out (by kernel_rfl) (we_len _) ?_; simp only [Act.put, List.setIfInBounds_toArray, List.set_cons_zero, List.set_cons_succ]) | (refine Txt.tl_rowN (n := 34) (ty := 65) (by rfl) (by rfl) (by rfl) RX.out (by kernel_rfl) (we_len _) ?_; simp only [Act.put, List.setIfInBounds_toArray, List.set_cons_zero, List.set_cons_succ]) | (refine Txt.tl_rowN (n := 32) (ty := 38) (by rfl) (by rfl) (by rfl) RU.out (by kernel_rfl) (by rw [List.length_map]; exact HU.out) ?_; simp only [Act.put, List.setIfInBounds_toArray, List.set_cons_zero, List.set_cons_succ])))
                            (repeat (first | ((with_reducible refine at_dt 148 ?_); refine Txt.tl_pure (v := .int .i64 ((i - 1 : Nat) : Int)) (by rfl) ?_ ?_; (focus (intro _; go_simp; try exact hwr)); simp only [Act.put, List.setIfInBounds_toArray, List.set_cons_zero, List.set_cons_succ]) | (refine Txt.tl_pure (v := ?_) (by rfl) ?_ ?_; rotate_left; (focus (intro _; go_simp; try with_reducible rfl)); simp only [Act.put, List.setIfInBounds_toArray, List.set_cons_zero, List.set_cons_succ]) | (refine Txt.tl_skip (by rfl) trivial ?_; simp only [Act.put, List.setIfInBounds_toArray, List.set_cons_zero, List.set_cons_succ]) | (refine Txt.tl_load (v := ?_) (by rfl) (by rfl) (by rfl) (by kernel_rfl) ?_ ?_; rotate_left; (focus assumption); simp only [Act.put, List.setIfInBounds_toArray, List.set_cons_zero, List.set_cons_succ]) | (refine Txt.tl_rowN (n := 34) (ty := 65) (by rfl) (by rfl) (by rfl) RY.out (by kernel_rfl) (we_len _) ?_; simp only [Act.put, List.setIfInBounds_toArray, List.set_cons_zero, List.set_cons_succ]) | (refine Txt.tl_rowN (n := 34) (ty := 65) (by rfl) (by rfl) (by rfl) RX.out (by kernel_rfl) (we_len _) ?_; simp only [Act.put, List.setIfInBounds_toArray, List.set_cons_zero, List.set_cons_succ]) | (refine Txt.tl_rowN (n := 32) (ty := 38) (by rfl) (by rfl) (by rfl) RU.out (by kernel_rfl) (by rw [List.length_map]; exact HU.out) ?_; simp only [Act.put, List.setIfInBounds_toArray, List.set_cons_zero, List.set_cons_succ])))
                            refine Txt.tl_nil ?_
                            clear c0 c1 RX RU RY
                            go_wp2
                            go_roundw
                            case rel => exact ⟨i + 1, false, by omega, by go_num, rfl, HM.out, HF.out⟩
                            case measure => simp [intOf]; omega
                      · obtain rfl : q = i := by omega
                        have HTk2 : Hid (L.take q = L) := List.take_of_length_le (by rw [Hq.out]; exact Nat.le_refl _)
                        have HFn : Hid (FI s L G a4 q ↔ FineW s L G a4) := by
                          show _ ↔ _
                          unfold FI FineW
                          rw [HTk2.out]
                          exact ⟨fun h => ⟨h.1, h.2.2.1, h.2.1, h.2.2.2⟩, fun h => ⟨h.1, h.2.2.1, h.2.1, h.2.2.2⟩⟩
                        cases ok with
                        | false =>
                          go_wp2
                          go_ret2
                          exact ⟨L, G, a4, 0, 4, _, rfl, HRA.out, .inr ⟨rfl, .inr ⟨HCa.out, .inr ⟨rfl, fun hf => by have := HOk.out.2 (HFn.out.2 hf); cases this⟩⟩⟩, HM.out.keep, fun _ => rfl, fun h => (by cases h)⟩
                        | true =>
                          have HFi : Hid (FineW s L G a4) := HFn.out.1 (HOk.out.1 rfl)
                          go_wp2
                          go_ret2
                          exact ⟨L, G, a4, 0, 0, _, rfl, HRA.out, .inr ⟨rfl, .inr ⟨HCa.out, .inl ⟨rfl, HFi.out⟩⟩⟩, HM.out.keep, fun h => absurd rfl h, fun _ => ⟨bx, _, _, rfl, packX HM.out⟩⟩
            · by_cases hlt2 : j < m
              · have HT2 : Hid (Til (rdIds s a3 b3) m j) := ⟨hj, HG2.out, .inr (by rw [HR2.out]; exact hb4)⟩
                have HRA : Hid (RwA s L G a4 bad4) := ⟨_, _, _, _, _, _, _, _, _, _, H1.out, HTl.out, HR.out, Q6.out, HT2.out, HR2.out⟩
                clear hc2
                have H4 : Hid (¬ bad4 = 0) := hb4
                go_wp2
                have HM : Hid _ := HM.out.drew
                have ce := (M.xcells HM.out 0 rfl).2
                refine Txt.wp_region_text (fun _ => True) [0, 0, 0, 1, 0, 0] (by kernel_rfl) (by kernel_rfl) trivial ?_
                (repeat (first | (refine Txt.tl_pure (v := ?_) (by rfl) ?_ ?_; rotate_left; (focus (intro _; go_simp; try with_reducible rfl)); simp only [Act.put, List.setIfInBounds_toArray, List.set_cons_zero, List.set_cons_succ]) | (refine Txt.tl_load (v := .int .i64 bad4) (ty := 3) (by rfl) (by rfl) (by rfl) (by kernel_rfl) ce ?_; simp only [Act.put, List.setIfInBounds_toArray, List.set_cons_zero, List.set_cons_succ])))
                refine Txt.tl_nil ?_
                go_wp2
                go_ret2
                exact ⟨L, G, a4, bad4, bad4, _, rfl, HRA.out, .inl ⟨H4.out, rfl⟩, HM.out.keep, fun _ => rfl, fun h => absurd h H4.out⟩
              · obtain rfl : m = j := by omega
                have HT2 : Hid (Til (rdIds s a3 b3) m m) := ⟨Nat.le_refl _, HG2.out, .inl rfl⟩
                have HRA : Hid (RwA s L G a4 bad4) := ⟨_, _, _, _, _, _, _, _, _, _, H1.out, HTl.out, HR.out, Q6.out, HT2.out, HR2.out⟩
                clear hc2 hlt2
                have H4 : Hid (¬ bad4 = 0) := hb4
                go_wp2
                have HM : Hid _ := HM.out.drew
                have ce := (M.xcells HM.out 0 rfl).2
                refine Txt.wp_region_text (fun _ => True) [0, 0, 0, 1, 0, 0] (by kernel_rfl) (by kernel_rfl) trivial ?_
                (repeat (first | (refine Txt.tl_pure (v := ?_) (by rfl) ?_ ?_; rotate_left; (focus (intro _; go_simp; try with_reducible rfl)); simp only [Act.put, List.setIfInBounds_toArray, List.set_cons_zero, List.set_cons_succ]) | (refine Txt.tl_load (v := .int .i64 bad4) (ty := 3) (by rfl) (by rfl) (by rfl) (by kernel_rfl) ce ?_; simp only [Act.put, List.setIfInBounds_toArray, List.set_cons_zero, List.set_cons_succ])))
                refine Txt.tl_nil ?_
                go_wp2
                go_ret2
                exact ⟨L, G, a4, bad4, bad4, _, rfl, HRA.out, .inl ⟨H4.out, rfl⟩, HM.out.keep, fun _ => rfl, fun h => absurd h H4.out⟩
end Mu
end Go.Proofs.YtgpimeobkacniaaGreat
